/- Lemmas for the last texts. -/
import Derived.Test.YtfhaojhofiocaaaGreatDoorM04
import Derived.Lib.SplitLaws
import Derived.Laws.Bits64b
import Derived.Laws.Bits64
set_option maxHeartbeats 6400000
set_option maxRecDepth 100000
namespace Go.Proofs.YtfhaojhofiocaaaGreatDoor
open Go.RowKit Go.Proofs.Tryz
attribute [go_sem] results196
def ztJ:jE:=[40,41,91,93,124,42,43,63,46,94,36,45,92]
def zfQ(b:Int):Bool:=decide (0<=Lib.indexByte ztJ b.toNat.toUInt8)
def zwM(s:jE)(r:RS):Int × RS:=
 if zaf s r<33 then (0,zaF r 3)else if 126<zaf s r then (0,zaF r 3)else if zfQ (zaf s r)=true then (0,zaF r 3)else (zaf s r,{r with pos:=r.pos+1})
def escR(s:jE)(r:RS):Int × RS:=
 if zaf s r=110 then (10,{r with pos:=r.pos+1})
 else if zaf s r=116 then (9,{r with pos:=r.pos+1})
 else if zaf s r=114 then (13,{r with pos:=r.pos+1})
 else if zaf s r=120 then ((zaS s {r with pos:=r.pos+1}).1*16+(zaS s (zaS s {r with pos:=r.pos+1}).2).1,(zaS s (zaS s {r with pos:=r.pos+1}).2).2)
 else if zaf s r<0 then (0,zaF r 3)else if zfQ (zaf s r)=true then (zaf s r,{r with pos:=r.pos+1})else (0,zaF r 3)
def zbo(s:jE)(r:RS):Int × RS:=if zaf s r=92 then escR s {r with pos:=r.pos+1}else zwM s r
theorem zpT{s:jE}{r:RS}(h:r.pos<=s.length):(zaS s r).2.pos<=s.length:=by
 have a:(zaF r 3).pos=r.pos:=by unfold zaF;split <;> rfl
 unfold zaS
 split
 ·show (zaF r 3).pos<=_;omega
 ·rename_i h1
  split
  ·show (zaF r 3).pos<=_;omega
  ·have:=(zaU (s:=s) (r:=r) rfl (by omega)).1
   show r.pos+1<=_
   omega
theorem zki(l:jE)(b:UInt8):Lib.indexByte l b<=l.length:=by
 have h1:=Lib.indexByte_ge l b
 rcases Int.lt_or_le (Lib.indexByte l b) 0 with h|h
 ·omega
 ·obtain⟨o,a⟩:∃o:Nat,Lib.indexByte l b=o:=⟨(Lib.indexByte l b).toNat,by omega⟩
  have:=(Qy.1 (Lib.indexByte_some a).1).1;omega
theorem zjG{s:jE}{r:RS}:0<=(zaS s r).1/\(zaS s r).1<=16:=by
 unfold zaS
 split
 ·exact⟨ZB _,by show (0:Int)<=16;decide⟩
 ·split
  ·exact⟨ZB _,by show (0:Int)<=16;decide⟩
  ·rename_i h1 h2
   have:=zki hexL (zaf s r).toNat.toUInt8;exact⟨by show 0<=Lib.indexByte hexL _;omega,by show Lib.indexByte hexL _<=16;exact this⟩
theorem zhJ(g:Nat)(s:ByteArray)(r:RS)(w:World)(h:RdAt g s r w)(hp:r.pos<=s.size)(hs:s.size<=4096):
 Calls prog 196 #[.pointer g] w λe w'=>e=jC (jA (zbo s.data.toList r).1)/\RdEnd g s (zbo s.data.toList r).2 w w':=by
 have I:=hIx (zeI g s r w h hp);have h7:=zdl (s:=s.data.toList) (r:=r);have hi:s.data.toList.length=s.size:=by simp
 have i:0<=zaf s.data.toList r->r.pos<s.size:=λh=>by have:=(zaU rfl h).1;omega
 have X:Hid (zbo s.data.toList r=if zaf s.data.toList r=92 then escR s.data.toList {r with pos:=r.pos+1}else if zaf s.data.toList r<33 then (0,zaF r 3)else if 126<zaf s.data.toList r then (0,zaF r 3)else if zfQ (zaf s.data.toList r)=true then (0,zaF r 3)else (zaf s.data.toList r,{r with pos:=r.pos+1})):=rfl;have y:Hid (∀(N:Int) W,Calls prog 111 #[.string (.mk #[40,41,91,93,124,42,43,63,46,94,36,45,92]),.int .u8 N] W λe w'=>e=jC (jA (Lib.indexByte ztJ N.toNat.toUInt8))/\w'=W):=λN W=>strings_IndexByte _ N W
 have c:Hid (∀N:Int,zfQ N=decide (0<=Lib.indexByte ztJ N.toNat.toUInt8)):=λ_=>rfl
 generalize zbo s.data.toList r=R at *;generalize zaf s.data.toList r=N at *;clear h
 go_in
 go_wp2_with (go_at_call 130;apply Hid.out);unfold Hid;refine(I.out).mono ?_;rintro e w1 ⟨rfl,h1,hk⟩;have D:=hIx hk;clear I hk
 by_cases P:N=92
 rotate_left
 ·have d0:(N != 92)=true:=Q6.2 P
  have k:Hid (∀W,RdAt g s r W->Calls prog 62 #[.pointer g,jA 3] W λe w'=>e=jC (.tuple #[])/\RdEnd g s (zaF r 3) W w'):=λW h=>zda g s r 3 W h
  have a:Hid (R=if N<33 then (0,zaF r 3)else if 126<N then (0,zaF r 3)else if zfQ N=true then (0,zaF r 3)else (N,{r with pos:=r.pos+1})):=by unfold Hid;rw[X.out,Qf P]
  clear X P
  by_cases x:N<33
  ·have d1:decide (N<33)=true:=Qx x
   rw[Qj x]at a;clear x i y c;have j:=hIx (k.out w1 h1);clear h1 k;go_wp2_with (go_at_call 62;apply Hid.out);unfold Hid;refine(j.out).mono ?_;rintro e wf ⟨rfl,u⟩;have f:=hIx (RdEnd.trans D.out u);clear u;go_wp2;exact zad ⟨by rw[a.out],by rw[a.out];exact f.out⟩
  have d1:decide (N<33)=false:=Qt x;rw[Qf x]at a
  by_cases E:126<N
  ·have d2:decide (126<N)=true:=Qx E
   rw[Qj E]at a;clear x E i y c;have j:=hIx (k.out w1 h1);clear h1 k;go_wp2_with (go_at_call 62;apply Hid.out);unfold Hid;refine(j.out).mono ?_;rintro e wf ⟨rfl,u⟩;have f:=hIx (RdEnd.trans D.out u);clear u;go_wp2;exact zad ⟨by rw[a.out],by rw[a.out];exact f.out⟩
  have d2:decide (126<N)=false:=Qt E;rw[Qf E,c.out N]at a;have O:=i (by omega);have i8:IntKind.u8.wrap N=N:=by rw[show IntKind.u8.wrap N=N % 256 from rfl];omega
  have m:=hIx (y.out N);generalize Lib.indexByte ztJ N.toNat.toUInt8=K at *;clear y c x E i;go_wp2_with (go_at_call 111;apply Hid.out);unfold Hid;refine(m.out w1).mono ?_;rintro e w2 ⟨rfl,rfl⟩
  by_cases z:0<=K
  ·have B:decide (0<=K)=true:=Qx z
   rw[B,Qj rfl]at a;clear z m;have j:=hIx (k.out w2 h1);clear h1 k;go_wp2_with (go_at_call 62;apply Hid.out);unfold Hid;refine(j.out).mono ?_;rintro e wf ⟨rfl,u⟩;have f:=hIx (RdEnd.trans D.out u);clear u;go_wp2;exact zad ⟨by rw[a.out],by rw[a.out];exact f.out⟩
  ·have B:decide (0<=K)=false:=Qt z
   rw[B,Qf (by decide)]at a;have i7:IntKind.i64.wrap ((r.pos:Int)+1)=((r.pos+1:Nat):Int):=Qz _ (by omega);clear z m k;have c0:=h1.cells;have A:=h1.free 1;have f:Hid (RdEnd g s {r with pos:=r.pos+1} w (w2.setCell ⟨g,1,none⟩ (jA ((r.pos+1:Nat):Int)))):=⟨h1.setPos _,zao D.out 1 _⟩
   clear h1;go_wp2;exact zad ⟨by rw[a.out],by rw[a.out];exact f.out⟩
 ·have O:=i (by omega)
  have a:Hid (R=escR s.data.toList {r with pos:=r.pos+1}):=by unfold Hid;rw[X.out,Qj P]
  subst P;have i7:IntKind.i64.wrap ((r.pos:Int)+1)=((r.pos+1:Nat):Int):=Qz _ (by omega);have c0:=h1.cells;have A:=h1.free 1;have h2:=h1.setPos (r.pos+1);have F:=zao D.out 1 (jA ((r.pos+1:Nat):Int));have h9:({r with pos:=r.pos+1}:RS).pos<=s.size:=O;generalize hq:({r with pos:=r.pos+1}:RS)=q at *;have I:=hIx (zeI g s q _ h2 h9);have hc:=zdl (s:=s.data.toList) (r:=q);have d:0<=zaf s.data.toList q->q.pos<s.size:=λh=>by have:=(zaU rfl h).1;omega
  have T:Hid (escR s.data.toList q=if zaf s.data.toList q=110 then (10,{q with pos:=q.pos+1})
   else if zaf s.data.toList q=116 then (9,{q with pos:=q.pos+1})
   else if zaf s.data.toList q=114 then (13,{q with pos:=q.pos+1})
   else if zaf s.data.toList q=120 then ((zaS s.data.toList {q with pos:=q.pos+1}).1*16+(zaS s.data.toList (zaS s.data.toList {q with pos:=q.pos+1}).2).1,(zaS s.data.toList (zaS s.data.toList {q with pos:=q.pos+1}).2).2)
   else if zaf s.data.toList q<0 then (0,zaF q 3)else if zfQ (zaf s.data.toList q)=true then (zaf s.data.toList q,{q with pos:=q.pos+1})else (0,zaF q 3)):=rfl
  have S:=a;clear a
  have a:Hid (R=if zaf s.data.toList q=110 then (10,{q with pos:=q.pos+1})
   else if zaf s.data.toList q=116 then (9,{q with pos:=q.pos+1})
   else if zaf s.data.toList q=114 then (13,{q with pos:=q.pos+1})
   else if zaf s.data.toList q=120 then ((zaS s.data.toList {q with pos:=q.pos+1}).1*16+(zaS s.data.toList (zaS s.data.toList {q with pos:=q.pos+1}).2).1,(zaS s.data.toList (zaS s.data.toList {q with pos:=q.pos+1}).2).2)
   else if zaf s.data.toList q<0 then (0,zaF q 3)else if zfQ (zaf s.data.toList q)=true then (zaf s.data.toList q,{q with pos:=q.pos+1})else (0,zaF q 3)):=by unfold Hid;rw[S.out,T.out]
  have k:Hid (∀W,RdAt g s q W->Calls prog 62 #[.pointer g,jA 3] W λe w'=>e=jC (.tuple #[])/\RdEnd g s (zaF q 3) W w'):=λW h=>zda g s q 3 W h
  generalize zaf s.data.toList q=M at *;have i9:IntKind.i64.wrap ((q.pos:Int)+1)=((q.pos+1:Nat):Int):=Qz _ (by omega);have H:=hIx F;clear X S T h7 i h1 h2 F hq D;go_wp2_with (go_at_call 130;apply Hid.out);unfold Hid;refine(I.out).mono ?_;rintro e w2 ⟨rfl,b,L⟩;have l:=hIx (zay H.out L);clear I L H c0 A
  by_cases n:M=110
  ·subst n
   rw[Qj rfl]at a;clear y c k;have c0:=b.cells;have A:=b.free 1;have f:Hid (RdEnd g s {q with pos:=q.pos+1} w (w2.setCell ⟨g,1,none⟩ (jA ((q.pos+1:Nat):Int)))):=⟨b.setPos _,zao l.out 1 _⟩
   clear b;go_wp2;exact zad ⟨by rw[a.out],by rw[a.out];exact f.out⟩
  have hd:(M==110)=false:=Qc.2 n;rw[Qf n]at a;clear n
  by_cases t:M=116
  ·subst t
   rw[Qj rfl]at a;clear y c k;have c0:=b.cells;have A:=b.free 1;have f:Hid (RdEnd g s {q with pos:=q.pos+1} w (w2.setCell ⟨g,1,none⟩ (jA ((q.pos+1:Nat):Int)))):=⟨b.setPos _,zao l.out 1 _⟩
   clear b;go_wp2;exact zad ⟨by rw[a.out],by rw[a.out];exact f.out⟩
  have hg:(M==116)=false:=Qc.2 t;rw[Qf t]at a;clear t
  by_cases o:M=114
  ·subst o
   rw[Qj rfl]at a;clear y c k;have c0:=b.cells;have A:=b.free 1;have f:Hid (RdEnd g s {q with pos:=q.pos+1} w (w2.setCell ⟨g,1,none⟩ (jA ((q.pos+1:Nat):Int)))):=⟨b.setPos _,zao l.out 1 _⟩
   clear b;go_wp2;exact zad ⟨by rw[a.out],by rw[a.out];exact f.out⟩
  have he:(M==114)=false:=Qc.2 o;rw[Qf o]at a;clear o
  by_cases v:M=120
  ·subst v
   rw[Qj rfl]at a;have Y:=d (by omega);have c0:=b.cells;have A:=b.free 1;have h4:=b.setPos (q.pos+1);have U:=zao l.out 1 (jA ((q.pos+1:Nat):Int));have Z:=zpT (s:=s.data.toList) (r:={q with pos:=q.pos+1}) (by show q.pos+1<=_;omega);have HG:=hIx (zjK g s {q with pos:=q.pos+1} _ h4 (by show q.pos+1<=_;omega) hs);have C:Hid (∀W,RdAt g s (zaS s.data.toList {q with pos:=q.pos+1}).2 W->Calls prog 214 #[.pointer g] W λe w'=>e=jC (jA (zaS s.data.toList (zaS s.data.toList {q with pos:=q.pos+1}).2).1)/\RdEnd g s (zaS s.data.toList (zaS s.data.toList {q with pos:=q.pos+1}).2).2 W w'):=λW h=>zjK g s _ W h (by omega) hs
   have h8:=zjG (s:=s.data.toList) (r:={q with pos:=q.pos+1});have h0:=zjG (s:=s.data.toList) (r:=(zaS s.data.toList {q with pos:=q.pos+1}).2);generalize zaS s.data.toList (zaS s.data.toList {q with pos:=q.pos+1}).2=D2 at *;generalize zaS s.data.toList {q with pos:=q.pos+1}=D1 at *;obtain⟨V,r1⟩:=D1;obtain⟨x2,r2⟩:=D2;dsimp only at a HG C h8 h0;have hj:IntKind.i64.wrap (V*16)=V*16:=Qz _ (by omega);have hh:IntKind.i64.wrap (V*16+x2)=V*16+x2:=Qz _ (by omega);have Q:=hIx U;clear b h4 U y c k d Z l;go_wp2_with (go_at_call 214;apply Hid.out);unfold Hid;refine(HG.out).mono ?_;rintro e w3 ⟨rfl,h5,G⟩;have J:=hIx (zay Q.out G);clear G HG Q c0 A;go_wp2_with (go_at_call 214;apply Hid.out);unfold Hid;refine(C.out w3 h5).mono ?_;rintro e w4 ⟨rfl,h6⟩;have f:=hIx (RdEnd.trans J.out h6);clear h5 h6 J C;go_wp2;exact zad ⟨by rw[a.out],by rw[a.out];exact f.out⟩
  have ha:(M==120)=false:=Qc.2 v;rw[Qf v]at a;clear v
  by_cases x:M<0
  ·have d1:decide (0<=M)=false:=Qt (by omega)
   rw[Qj x]at a;clear x d y c;have j:=hIx (k.out w2 b);clear b k;go_wp2_with (go_at_call 62;apply Hid.out);unfold Hid;refine(j.out).mono ?_;rintro e wf ⟨rfl,u⟩;have f:=hIx (RdEnd.trans l.out u);clear u;go_wp2;exact zad ⟨by rw[a.out],by rw[a.out];exact f.out⟩
  have d1:decide (0<=M)=true:=Qx (by omega);rw[Qf x,c.out M]at a;have Y:=d (by omega);have i8:IntKind.u8.wrap M=M:=by rw[show IntKind.u8.wrap M=M % 256 from rfl];omega
  have m:=hIx (y.out M);generalize Lib.indexByte ztJ M.toNat.toUInt8=K at *;clear y c x d;go_wp2_with (go_at_call 111;apply Hid.out);unfold Hid;refine(m.out w2).mono ?_;rintro e w3 ⟨rfl,rfl⟩
  by_cases z:0<=K
  ·have B:decide (0<=K)=true:=Qx z
   rw[B,Qj rfl]at a;clear z m k;have c0:=b.cells;have A:=b.free 1;have f:Hid (RdEnd g s {q with pos:=q.pos+1} w (w3.setCell ⟨g,1,none⟩ (jA ((q.pos+1:Nat):Int)))):=⟨b.setPos _,zao l.out 1 _⟩
   clear b;go_wp2;exact zad ⟨by rw[a.out],by rw[a.out];exact f.out⟩
  ·have B:decide (0<=K)=false:=Qt z
   rw[B,Qf (by decide)]at a;clear z m;have j:=hIx (k.out w3 b);clear b k;go_wp2_with (go_at_call 62;apply Hid.out);unfold Hid;refine(j.out).mono ?_;rintro e wf ⟨rfl,u⟩;have f:=hIx (RdEnd.trans l.out u);clear u;go_wp2;exact zad ⟨by rw[a.out],by rw[a.out];exact f.out⟩
def splL(c:UInt8):jE->List jE
 | []=>[[]]
 |b::l=>if b=c then []::splL c l else match splL c l with
  | []=>[[b]]
  |x::r=>(b::x)::r
theorem znI(c:UInt8)(l:jE):splL c l≠[]:=by
 cases l with
 |nil=>simp[splL]
 |cons b l=>
  rw[splL]
  split
  ·simp
  ·split <;> simp
theorem zdL(c:UInt8)(l:jE):(splL c l).length<=l.length+1:=by
 induction l with
 |nil=>exact Qd _
 |cons b l ih=>
  rw[splL]
  split
  ·simp only[Qq];omega
  ·cases h:splL c l with
   |nil=>simp
   |cons x r=>rw[h]at ih;simp only[Qq]at ih ⊢;omega
theorem zuh(c:UInt8)(l:jE):((splL c l).filter λx=>!x.isEmpty).length<=l.length:=by
 induction l with
 |nil=>exact Qd _
 |cons b l ih=>
  rw[splL]
  split
  ·rw[List.filter_cons_of_neg (by simp)];simp only[Qq];omega
  ·cases h:splL c l with
   |nil=>simp
   |cons x r=>
    rw[h]at ih;rw[List.filter_cons_of_pos (by simp)];cases x with
    |nil=>rw[List.filter_cons_of_neg (by simp)]at ih;simp only[Qq];omega
    |cons y x=>rw[List.filter_cons_of_pos (by simp)]at ih;simp only[Qq]at ih ⊢;omega
theorem zbY(c:UInt8)(l:jE):∀x∈splL c l,x.length<=l.length:=by
 induction l with
 |nil=>intro x a;simp[splL]at a;subst a;exact Qd _
 |cons b l ih=>
  intro x a;rw[splL]at a
  split at a
  ·rcases QN.1 a with h|h
   ·subst h;simp
   ·have:=ih x h;simp only[Qq];omega
  ·cases h:splL c l with
   |nil=>exact absurd h (znI c l)
   |cons y r=>
    rw[h]at a ih
    rcases QN.1 a with h1|h1
    ·subst h1;have:=ih y (by simp);simp only[Qq];omega
    ·have:=ih x (by simp[h1]);simp only[Qq];omega
theorem zle(b c:UInt8)(l:jE)(h:b≠c):Lib.index (b::l) [c]=if Lib.index l [c]==-1 then -1 else Lib.index l [c]+1:=by
 have a:([c]:jE).isPrefixOf (b::l)=false:=by simp[List.isPrefixOf,Xk h]
 rw[Lib.index,a];simp
theorem zjH(c:UInt8):∀l:jE,Lib.splitK [c] 0 (Lib.count l [c]) l=splL c l
 | []=>by rw[Lib.count_miss (by simp[Lib.index])];rfl
 |b::l=>by
  have ih:=zjH c l
  by_cases h:b=c
  ·subst h
   have a:Lib.index (b::l) [b]=0:=by rw[Lib.index];simp[List.isPrefixOf]
   rw[Lib.count_cons_eq,Nat.add_comm,Lib.splitK,Qf (by rw[a];decide),a,splL,Qj rfl,<-ih]
   rfl
  ·rw[Lib.count_cons_ne b c l h,splL,Qf h,<-ih]
   by_cases f:Lib.index l [c]=-1
   ·rw[Lib.count_miss f];rfl
   ·have g:=Lib.index_ge l [c]
    obtain⟨j,d⟩:∃j:Nat,Lib.index l [c]=j:=⟨(Lib.index l [c]).toNat,by omega⟩
    have e:Lib.count l [c]=Lib.count (l.drop (j+1)) [c]+1:=by rw[Lib.count_hit (by simp) d,Nat.add_comm];rfl
    have a:Lib.index (b::l) [c]=((j+1:Nat):Int):=by rw[zle b c l h,Qf (λe=>f (Zn.1 e)),d];omega
    rw[e,Lib.splitK,Qf (by rw[a,Zn];omega),a,Lib.splitK,Qf (by rw[d,Zn];omega),d]
    rfl
theorem zb1(c:UInt8)(s:ByteArray):(Lib.splitB ⟨#[c]⟩ 0 (Lib.countB s ⟨#[c]⟩) s).map (·.data.toList)=splL c s.data.toList:=by
 rw[Lib.splitB_data];exact zjH c _
theorem zcP(l a:jE):(Lib.cut l a).1.length<=l.length/\(Lib.cut l a).2.1.length<=l.length:=by
 unfold Lib.cut
 split
 ·exact⟨by rw[QK];exact Nat.min_le_right _ _,by rw[QJ];exact Nat.sub_le _ _⟩
 ·exact⟨Qd _,Qn _⟩
def zaA(b:UInt8):Int:=
 if 48<=b.toNat/\b.toNat<=57 then (b.toNat:Int)-48 else if 97<=b.toNat/\b.toNat<=102 then (b.toNat:Int)-87 else if 65<=b.toNat/\b.toNat<=70 then (b.toNat:Int)-55 else -1
theorem zit(b:UInt8)(w:World):
 Calls prog 103 #[.int .u8 b.toNat] w λe w'=>e=jC (jA (zaA b))/\w'=w:=by
 have hb:(b.toNat:Int)<=255:=by have:=b.toNat_lt;omega
 unfold zaA;generalize b.toNat=n at *
 go_in
 go_wp2
 all_goals
  go_ret;exact⟨zae (by (repeat' split) <;> omega),rfl⟩
theorem zdi(b:UInt8)(w:World):
 Calls prog 183 #[.int .u8 b.toNat] w λe w'=>e=jC (jA (zaA b))/\w'=w:=by
 go_in
 go_wp2_with (go_at_call 103;refine(zit _ _).mono ?_;rintro e w' ⟨rfl,rfl⟩);go_ret;exact⟨rfl,rfl⟩
theorem zlk(b:UInt8):zaA b<16:=by
 have:=b.toNat_lt;unfold zaA;(repeat' split) <;> omega
def zcb(base:Int):jE->Int->Option Int
 | [],n=>some n
 |b::l,n=>if zaA b<0\/base<=zaA b then none else zcb base l (n*base+zaA b)
def numL(base:Int)(most:Nat)(l:jE):Option Int:=
 if l.length=0\/most<l.length then none else zcb base l 0
def zcg(o:Option Int):Value:=match o with
 |some n=>.tuple #[jA n,jA 0]
 |none=>.tuple #[jA 0,jA 4]
def zwR(base:Int)(most:Nat)(s:ByteArray)(n i:Value):Prop:=
 ∃(k:Nat) (v:Int),k<=s.size/\i=jA k/\n=jA v/\0<=v/\v<16 ^ k/\numL base most s.data.toList=zcb base (s.data.toList.drop k) v
theorem zvt(s:ByteArray)(w:World)(m:s.size<=maxLen):
 Calls prog 71 #[.string s,jA 10,jA 9] w λe w'=>e=jC (zcg (numL 10 9 s.data.toList))/\w'=w:=by
 unfold maxLen at m;have a:s.data.toList.length=s.size:=by simp
 by_cases b:s.size=0\/9<s.size
 ·have H:Hid (numL 10 9 s.data.toList=none):=by unfold numL;rw[Qj (by omega)];exact rfl
  rcases b with b|b
  all_goals
   clear a
   go_in
   go_wp2
   all_goals (go_ret2;exact⟨by rw[H.out];rfl,rfl⟩)
 ·obtain⟨t,x⟩:=not_or.1 b
  have H:Hid (numL 10 9 s.data.toList=zcb 10 s.data.toList 0):=by unfold numL;rw[Qf (by omega)];exact rfl
  have h1:((s.size:Int)==0)=false:=Qc.2 (by omega);have h2:(s.size:Int)<=9:=by omega
  have y:s.size<=9:=by omega
  clear a b
  go_in
  go_wp2
  go_loop [8,22] (λn i=>zwR 10 9 s n i) (λ_ i=>s.size-(intOf i).toNat)
  case atStart=>exact⟨0,0,Qn _,rfl,rfl,by decide,by decide,H⟩
  case round=>
   obtain⟨k,v,r,rfl,rfl,l,j,c⟩:=hrel;have f:=hIx c;clear c
   have u:(16:Int) ^ k<=68719476736:=by
    have:(16:Nat) ^ k<=16 ^ 9:=ZS (by decide) (by omega);have h:((16 ^ k:Nat):Int)<=68719476736:=by omega
    simpa using h
   by_cases d:k<s.size
   ·have q:=zlk s[k]
    have g:=hIx (zaH s k d);have o:Hid ((16:Int) ^ (k+1)=16 ^ k*16):=Int.pow_succ _ _;go_wp2_with (go_at_call 103;refine(zit _ _).mono ?_;rintro e w' ⟨rfl,rfl⟩)
    all_goals first
     |(
      go_ret2
      exact⟨by rw[f.out,g.out,zcb,Qj (by omega)];rfl,rfl⟩)
     |(
      go_round
      case rel=>exact⟨k+1,_,by omega,by go_num,rfl,by omega,by rw[o.out];omega,by rw[f.out,g.out,zcb,Qf (by omega)]⟩
      case measure=>simp[intOf];omega)
   ·go_wp2
    go_ret2
    exact⟨by rw[f.out,QM (by simp;omega)];rfl,rfl⟩
theorem zge(s:ByteArray)(w:World)(a:s.size<=maxLen):
 Calls prog 50 #[.string s] w λe w'=>e=jC (zcg (numL 10 9 s.data.toList))/\w'=w:=by
 go_in
 cases h:numL 10 9 s.data.toList
 all_goals
  have H:=hIx h;clear h;go_wp2_with (go_at_call 71;refine(zvt _ _ a).mono ?_;rintro e w' ⟨rfl,rfl⟩;rw[H.out];simp only[zcg])
  go_ret2
  exact⟨rfl,rfl⟩
theorem zwv(s:ByteArray)(w:World)(m:s.size<=maxLen):
 Calls prog 71 #[.string s,jA 16,jA 7] w λe w'=>e=jC (zcg (numL 16 7 s.data.toList))/\w'=w:=by
 unfold maxLen at m;have a:s.data.toList.length=s.size:=by simp
 by_cases b:s.size=0\/7<s.size
 ·have H:Hid (numL 16 7 s.data.toList=none):=by unfold numL;rw[Qj (by omega)];exact rfl
  rcases b with b|b
  all_goals
   clear a
   go_in
   go_wp2
   all_goals (go_ret2;exact⟨by rw[H.out];rfl,rfl⟩)
 ·obtain⟨t,x⟩:=not_or.1 b
  have H:Hid (numL 16 7 s.data.toList=zcb 16 s.data.toList 0):=by unfold numL;rw[Qf (by omega)];exact rfl
  have h1:((s.size:Int)==0)=false:=Qc.2 (by omega);have h2:(s.size:Int)<=7:=by omega
  have y:s.size<=7:=by omega
  clear a b
  go_in
  go_wp2
  go_loop [8,22] (λn i=>zwR 16 7 s n i) (λ_ i=>s.size-(intOf i).toNat)
  case atStart=>exact⟨0,0,Qn _,rfl,rfl,by decide,by decide,H⟩
  case round=>
   obtain⟨k,v,r,rfl,rfl,l,j,c⟩:=hrel;have f:=hIx c;clear c
   have u:(16:Int) ^ k<=68719476736:=by
    have:(16:Nat) ^ k<=16 ^ 9:=ZS (by decide) (by omega);have h:((16 ^ k:Nat):Int)<=68719476736:=by omega
    simpa using h
   by_cases d:k<s.size
   ·have q:=zlk s[k]
    have g:=hIx (zaH s k d);have o:Hid ((16:Int) ^ (k+1)=16 ^ k*16):=Int.pow_succ _ _;go_wp2_with (go_at_call 103;refine(zit _ _).mono ?_;rintro e w' ⟨rfl,rfl⟩)
    all_goals first
     |(
      go_ret2
      exact⟨by rw[f.out,g.out,zcb,Qj (by omega)];rfl,rfl⟩)
     |(
      go_round
      case rel=>exact⟨k+1,_,by omega,by go_num,rfl,by omega,by rw[o.out];omega,by rw[f.out,g.out,zcb,Qf (by omega)]⟩
      case measure=>simp[intOf];omega)
   ·go_wp2
    go_ret2
    exact⟨by rw[f.out,QM (by simp;omega)];rfl,rfl⟩
theorem ztQ(s:ByteArray)(w:World)(a:s.size<=maxLen):
 Calls prog 184 #[.string s] w λe w'=>e=jC (zcg (numL 16 7 s.data.toList))/\w'=w:=by
 go_in
 cases h:numL 16 7 s.data.toList
 all_goals
  have H:=hIx h;clear h;go_wp2_with (go_at_call 71;refine(zwv _ _ a).mono ?_;rintro e w' ⟨rfl,rfl⟩;rw[H.out];simp only[zcg])
  go_ret2
  exact⟨rfl,rfl⟩
def zm1(f:Nat->Bool):Nat->Nat
 |0=>0
 |i+1=>zm1 f i|||if f i then 2 ^ i else 0
theorem zo0(f:Nat->Bool):∀n,zm1 f n<2 ^ n
 |0=>Nat.one_pos
 |n+1=>by
  have h:=zo0 f n;rw[zm1];refine Nat.or_lt_two_pow (Qw h (ZS (by decide) (by omega))) ?_
  split
  ·exact Nat.pow_lt_pow_right (by decide) (by omega)
  ·exact Nat.two_pow_pos _
theorem zjT(f:Nat->Bool):∀n i,(zm1 f n).testBit i=(decide (i<n)&&f i)
 |0,i=>by simp[zm1]
 |n+1,i=>by
  have ih:=zjT f n i;rw[zm1,Nat.testBit_or,ih]
  have b:(if f n then 2 ^ n else 0).testBit i=(decide (n=i)&&f n):=by
   split
   ·rename_i h;rw[Nat.testBit_two_pow,h,Bool.and_true]
   ·rename_i h;simp[h]
  rw[b]
  by_cases e:i=n
  ·subst e;simp
  ·have a:¬n=i:=λh=>e h.symm
   by_cases h2:i<n
   ·simp[h2,Nat.lt_succ_of_lt h2,a]
   ·have:¬i<n+1:=by omega
    simp[h2,this,a]
def wdF(f:Nat->Bool)(j:Nat):Nat:=zm1 (λi=>f (64*j+i)) 64
theorem ziR(f:Nat->Bool)(j:Nat):wdF f j<18446744073709551616:=zo0 _ 64
theorem za4(f:Nat->Bool)(j i:Nat):(wdF f j).testBit i=(decide (i<64)&&f (64*j+i)):=zjT _ 64 i
theorem zwO(f g:Nat->Bool)(j:Nat):wdF f j|||wdF g j=wdF (λk=>f k||g k) j:=by
 refine ZD λi=>?_
 rw[Nat.testBit_or,za4,za4,za4];cases decide (i<64) <;> simp
theorem zyq(f:Nat->Bool)(k:Nat):wdF f (k / 64)|||2 ^ (k % 64)=wdF (λx=>f x||decide (x=k)) (k / 64):=by
 refine ZD λi=>?_
 rw[Nat.testBit_or,za4,za4,Nat.testBit_two_pow]
 by_cases h:i<64
 ·by_cases e:k % 64=i
  ·have:64*(k / 64)+i=k:=by omega
   simp[h,e,this]
  ·have:¬64*(k / 64)+i=k:=by omega
   simp[h,e,this]
 ·have:¬k % 64=i:=by omega
  simp[h,this]
theorem zsh(f:Nat->Bool)(k j:Nat)(h:j≠k / 64):wdF (λx=>f x||decide (x=k)) j=wdF f j:=by
 refine ZD λi=>?_
 rw[za4,za4]
 by_cases h2:i<64
 ·have:¬64*j+i=k:=by omega
  simp[h2,this]
 ·simp[h2]
theorem zfm{f g:Nat->Bool}{j:Nat}(a:j<4)(h:∀k,k<256->f k=g k):wdF f j=wdF g j:=by
 refine ZD λi=>?_
 rw[za4,za4]
 by_cases h2:i<64
 ·rw[h _ (by omega)]
 ·simp[h2]
def setF(f:Nat->Bool):Set4:=⟨wdF f 0,wdF f 1,wdF f 2,wdF f 3⟩
theorem zdz(f:Nat->Bool)(j:Nat)(a:j<4):(setF f).word j=(wdF f j:Nat):=by
 match j,a with
 |0,_=>rfl
 |1,_=>rfl
 |2,_=>rfl
 |3,_=>rfl
theorem zbZ{f g:Nat->Bool}(h:∀k,k<256->f k=g k):setF f=setF g:=by
 unfold setF;rw[zfm (by decide) h,zfm (by decide) h,zfm (by decide) h,zfm (by decide) h]
theorem zu5(j:Nat):wdF (λ_=>false) j=0:=ZD λi=>by rw[za4];simp
theorem zik:setF (λ_=>false)=.zero:=by
 unfold setF Set4.zero;simp only[zu5]
 rfl
def numB(most:Int)(l:jE):Int:=match numL 10 9 l with
 |some n=>if most<n\/(l.head? = some 48/\1<l.length)then -1 else n
 |none=>-1
def loR(x:jE):Int:=numB 255 (Lib.cut x [45]).1
def hiR(x:jE):Int:=numB 255 (if (Lib.cut x [45]).2.2=true then (Lib.cut x [45]).2.1 else (Lib.cut x [45]).1)
def okR(x:jE):Bool:=decide (0<=loR x)&&decide (loR x<=hiR x)
def inR(x:jE)(k:Nat):Bool:=decide (loR x<=k)&&decide ((k:Int)<=hiR x)
def anyR(a:List jE)(k:Nat):Bool:=a.any λx=>inR x k
def okB(l:jE):Bool:=(splL 44 l).all okR
def inB(l:jE):Nat->Bool:=anyR (splL 44 l)
theorem zgW:∀(l:jE) (n v:Int),0<=n->zcb 10 l n=some v->0<=v
 | [],n,v,h,e=>by cases e;exact h
 |b::l,n,v,h,e=>by
  rw[zcb]at e
  split at e
  ·cases e
  ·exact zgW l _ v (by omega) e
theorem zxj(most:Int)(l:jE)(h:0<=most):numB most l<=most:=by
 unfold numB
 split
 ·split <;> omega
 ·omega
theorem zrk(most:Int)(l:jE):-1<=numB most l:=by
 unfold numB
 split
 ·rename_i n a
  have:0<=n:=by
   unfold numL at a
   split at a
   ·cases a
   ·exact zgW l 0 n (by decide) a
  split <;> omega
 ·omega
def setA(s:Set4):Value:=.agg #[jB s.a,jB s.b,jB s.c,jB s.d]
def FourW(w:World)(g:Nat)(s:Set4):Prop:=w.heap[g]? = some (.cells #[jB s.a,jB s.b,jB s.c,jB s.d] 95 (0,0))
section
variable {w w':World} {g:Nat} {s:Set4}
theorem FourW.cells(h:FourW w g s):w.cell? g=some (jB s.a)/\w.cell? ⟨g,1,none⟩=some (jB s.b)/\w.cell? ⟨g,2,none⟩=some (jB s.c)/\w.cell? ⟨g,3,none⟩=some (jB s.d):=
 ⟨Qo w g 0 _ _ (0,0) h,Qo w g 1 _ _ (0,0) h,Qo w g 2 _ _ (0,0) h,Qo w g 3 _ _ (0,0) h⟩
theorem FourW.cell(h:FourW w g s)(j:Nat)(a:j<4):w.cell? ⟨g,j,none⟩=some (jB (s.word j)):=by
 obtain⟨b,h1,h2,c⟩:=h.cells
 match j,a with
 |0,_=>exact b
 |1,_=>exact h1
 |2,_=>exact h2
 |3,_=>exact c
theorem FourW.free(h:FourW w g s)(j:Nat):w.frozen? ⟨g,j,none⟩=false:=by unfold FourW at h;simp[World.frozen?, h]
theorem FourW.far(h:FourW w g s){k:Nat}(a:g≠k)(j:Nat)(u:Value):FourW (w.setCell ⟨k,j,none⟩ u) g s:=(Qm w ⟨k,j,none⟩ u g a).trans h
theorem FourW.lt(h:FourW w g s):g<w.heap.size:=by
 unfold FourW at h;rw[QI]at h;exact h.1
theorem FourW.drew(h:FourW w g s):FourW w.drew g s:=h
theorem FourW.below{B:Nat}(h:FourW w g s)(hb:Below B w w')(a:g<B):FourW w' g s:=(hb.block g a).trans h
def putW(s:Set4)(j:Nat)(u:Int):Set4:=if j=0 then ⟨u,s.b,s.c,s.d⟩else if j=1 then ⟨s.a,u,s.c,s.d⟩else if j=2 then ⟨s.a,s.b,u,s.d⟩else ⟨s.a,s.b,s.c,u⟩
theorem FourW.put(h:FourW w g s)(j:Nat)(a:j<4)(u:Int):FourW (w.setCell ⟨g,j,none⟩ (jB u)) g (putW s j u):=by
 unfold FourW at h ⊢
 match j,a with
 |0,_=>simp[World.setCell,Q5,h,putW]
 |1,_=>simp[World.setCell,Q5,h,putW]
 |2,_=>simp[World.setCell,Q5,h,putW]
 |3,_=>simp[World.setCell,Q5,h,putW]
theorem FourW.fill(h:FourW w g s)(t:Set4):FourW ((((w.setCell g (jB t.a)).setCell ⟨g,1,none⟩ (jB t.b)).setCell ⟨g,2,none⟩ (jB t.c)).setCell ⟨g,3,none⟩ (jB t.d)) g t:=by unfold FourW at h ⊢;simp[World.setCell,Q5,h]
theorem FourW.new(w:World):FourW (w.alloc (.cells #[jB 0,jB 0,jB 0,jB 0] 95)) w.heap.size (setF λ_=>false):=by rw[zik];exact Qv w _
end
theorem zuK(f:Nat->Bool)(k:Nat)(d:k<256):putW (setF f) (k / 64) ((wdF f (k / 64)|||2 ^ (k % 64):Nat):Int)=setF (λx=>f x||decide (x=k)):=by
 have c:k / 64<4:=by omega
 rw[zyq];have a:=zsh f k;generalize b:k / 64=j at *;unfold putW setF
 match j,c with
 |0,_=>simp[a 1 (by decide),a 2 (by decide),a 3 (by decide)]
 |1,_=>simp[a 0 (by decide),a 2 (by decide),a 3 (by decide)]
 |2,_=>simp[a 0 (by decide),a 1 (by decide),a 3 (by decide)]
 |3,_=>simp[a 0 (by decide),a 1 (by decide),a 2 (by decide)]
theorem zzN(f:Nat->Bool)(k:Nat):bits .or .u64 ((wdF f (k / 64):Nat):Int) (IntKind.u64.wrap (2 ^ (k % 64)))=((wdF f (k / 64)|||2 ^ (k % 64):Nat):Int):=by
 have h1:2 ^ (k % 64)<18446744073709551616:=by have h:=Nat.pow_lt_pow_right (a:=2) (by decide) (Nat.mod_lt k (show 64>0 by decide));exact h
 have:=bits_or_u64_nat (wdF f (k / 64)) (2 ^ (k % 64)) (ziR _ _) h1
 have h2:IntKind.u64.wrap (2 ^ (k % 64))=((2 ^ (k % 64):Nat):Int):=by
  rw[IntKind.wrap_u64,show (2:Int) ^ (k % 64)=((2 ^ (k % 64):Nat):Int)by rw[Int.natCast_pow];rfl];generalize 2 ^ (k % 64)=q at h1;omega
 rw[<-this,h2]
def zb2(s:Set4)(w:World)(e:Ending)(w':World):Prop:=e=jC (setA s)/\w w'
theorem zyS(k:Nat)(a:k<256):bits .and .i64 (k:Int) 63=((k % 64:Nat):Int):=by
 have h:∀k:Fin 256,bits .and .i64 ((k.val:Nat):Int) 63=((k.val % 64:Nat):Int):=by decide+kernel
 exact h ⟨k,a⟩
def zzZ(a c:Nat)(w:World)(b:Value)(wr:World):Prop:=
 ∃k:Nat,a<=k/\k<=c+1/\b=jA k/\FourW wr (w.heap.size+1) (setF λx=>decide (a<=x)&&decide (x<k))/\FourW wr w.heap.size (setF λ_=>false)/\w wr
theorem zcv(h f:Nat)(h1:h<=f)(h2:f<256)(w:World):
 Calls prog 75 #[jA h,jA f] w (zb2 (setF λx=>decide (h<=x)&&decide (x<=f)) w):=by
 have F:∀W,W=(w.alloc (.cells #[jB 0,jB 0,jB 0,jB 0] 95)).alloc (.cells #[jB 0,jB 0,jB 0,jB 0] 95)->FourW W (w.heap.size+1) (setF λx=>decide (h<=x)&&decide (x<h))/\FourW W w.heap.size (setF λ_=>false)/\w W:=λW u=>by
  have hb:w W:=by rw[u];exact WaL.alloc (by simp) _
  refine⟨?_,?_,hb⟩
  ·have:=FourW.new (w.alloc (.cells #[jB 0,jB 0,jB 0,jB 0] 95))
   rw[Qp]at this;rw[u,zbZ (g:=λ_=>false) (λk _=>by simp)];exact this
  ·rw[u]
   exact(Qs _ _ _ (by simp)).trans (FourW.new w)
 have H:=hIx F;clear F
 go_in
 go_wp2
 go_loopw [6] (λb wr=>zzZ h f w b wr) (λb _=>256-(intOf b).toNat)
 case atStart=>exact⟨h,Qd _,by omega,rfl,H.out _ rfl⟩
 case round=>
  obtain⟨k,s,I,rfl,j,o,hb⟩:=hrel
  by_cases G:k<=f
  ·have K:decide ((k:Int)<=(f:Int))=true:=by simp;omega
   have l:Hid ((λx=>(decide (h<=x)&&decide (x<k))||decide (x=k))=λx=>decide (h<=x)&&decide (x<k+1)):=by
    unfold Hid
    funext x
    by_cases e:x=k
    ·subst e;simp[s]
    ·by_cases h2:x<k
     ·simp[h2,e,Nat.lt_succ_of_lt h2]
     ·have:¬x<k+1:=by omega
      simp[h2,e,this]
   have i:=j.cell (k / 64) (by omega);rw[zdz _ _ (by omega)]at i;have r:=j.free (k / 64);have m:=hIx (zuK (λx=>decide (h<=x)&&decide (x<k)) k (by omega));have O:=zzN (λx=>decide (h<=x)&&decide (x<k)) k;have N:=zyS k (by omega);rw[l.out]at m;generalize wdF (λx=>decide (h<=x)&&decide (x<k)) (k / 64)=q at *;have A:=hIx j;have y:=hIx o;have B:=hIx hb;clear j o hb;go_wp2_with fail
   go_region
   have n:=A.out.put (k / 64) (by omega) ((q|||2 ^ (k % 64):Nat):Int);rw[m.out]at n;have t:=y.out.far (k:=w.heap.size+1) (by omega) (k / 64) (jB ((q|||2 ^ (k % 64):Nat):Int));have E:=B.out.setCell (p:=⟨w.heap.size+1,k / 64,none⟩) (Zd _) (jB ((q|||2 ^ (k % 64):Nat):Int));clear i r;generalize wr.setCell ⟨w.heap.size+1,k / 64,none⟩ (jB ((q|||2 ^ (k % 64):Nat):Int))=w3 at *;go_wp2_with fail
   go_roundw
   case rel=>exact⟨k+1,by omega,by omega,by go_num,n.drew,t.drew,E.drew⟩
   case measure=>simp[intOf] <;> omega
  ·obtain rfl:k=f+1:=by omega
   have K:decide (((f+1:Nat):Int)<=(f:Int))=false:=by simp;omega
   have l:Hid (setF (λx=>decide (h<=x)&&decide (x<f+1))=setF λx=>decide (h<=x)&&decide (x<=f)):=zbZ λx V=>by
    rw[show decide (x<f+1)=decide (x<=f)from decide_eq_decide.2 Nat.lt_succ_iff]
   rw[l.out]at j;obtain⟨S,D⟩:∃S,S=setF λx=>decide (h<=x)&&decide (x<=f):=⟨_,rfl⟩
   rw[<-D]at j;have Q:=hIx D;clear D;have c0:=j.cells;have X:=o.cells;have Y:=o.free;go_wp2_with fail;have C:=o.fill S;have z:=(((hb.setCell (p:=⟨w.heap.size,0,none⟩) (Qd _) (jB S.a)).setCell (p:=⟨w.heap.size,1,none⟩) (Qd _) (jB S.b)).setCell (p:=⟨w.heap.size,2,none⟩) (Qd _) (jB S.c)).setCell (p:=⟨w.heap.size,3,none⟩) (Qd _) (jB S.d);generalize ((((wr.setCell w.heap.size (jB S.a)).setCell ⟨w.heap.size,1,none⟩ (jB S.b)).setCell ⟨w.heap.size,2,none⟩ (jB S.c)).setCell ⟨w.heap.size,3,none⟩ (jB S.d))=U at *;obtain⟨L,P,J,T⟩:=C.cells;exact QD (v:=setA S) (by simp[results,results75,go_sem,L,P,J,T,setA]) rfl ⟨by rw[Q.out],z⟩
theorem zoE(f h:Nat->Bool)(k j:Nat):wdF (λx=>if x / 64=k then h x else f x) j=if j=k then wdF h j else wdF f j:=by
 have e:∀i,i<64->(64*j+i) / 64=j:=λi b=>by omega
 by_cases a:j=k
 ·rw[Qj a]
  refine ZD λi=>?_
  rw[za4,za4]
  by_cases b:i<64
  ·rw[e i b,Qj a]
  ·simp[b]
 ·rw[Qf a]
  refine ZD λi=>?_
  rw[za4,za4]
  by_cases b:i<64
  ·rw[e i b,Qf a]
  ·simp[b]
theorem zxL(f h:Nat->Bool)(k:Nat)(a:k<4):putW (setF f) k ((wdF h k:Nat):Int)=setF (λx=>if x / 64=k then h x else f x):=by
 unfold setF;rw[zoE,zoE,zoE,zoE];have:k=0\/k=1\/k=2\/k=3:=by omega
 rcases this with rfl|rfl|rfl|rfl <;> rfl
def upW(f h:Nat->Bool)(k:Nat)(x:Nat):Bool:=if x / 64<k then h x else f x
theorem zok(f h:Nat->Bool)(k:Nat)(b:k<4):putW (setF (upW f h k)) k ((wdF h k:Nat):Int)=setF (upW f h (k+1)):=by
 rw[zxL _ _ _ b];refine zbZ λx _=>?_
 unfold upW
 by_cases e:x / 64=k
 ·rw[Qj e,Qj (by omega)]
 ·rw[Qf e]
  by_cases a:x / 64<k
  ·rw[Qj a,Qj (by omega)]
  ·rw[Qf a,Qf (by omega)]
theorem zoo(f h:Nat->Bool)(k:Nat):wdF (upW f h k) k=wdF f k:=by
 refine ZD λi=>?_
 rw[za4,za4]
 by_cases a:i<64
 ·unfold upW;rw[Qf (by omega)]
 ·simp[a]
theorem zoO(f h:Nat->Bool):setF (upW f h 0)=setF f:=zbZ λx _=>by unfold upW;rw[Qf (by omega)]
theorem zt8(f h:Nat->Bool):setF (upW f h 4)=setF h:=zbZ λx a=>by unfold upW;rw[Qj (by omega)]
theorem zuL(f h:Nat->Bool)(j:Nat):bits .or .u64 ((wdF f j:Nat):Int) ((wdF h j:Nat):Int)=((wdF (λx=>f x||h x) j:Nat):Int):=by
 rw[bits_or_u64_nat (wdF f j) (wdF h j) (ziR _ _) (ziR _ _),zwO]
def zy0(f h:Nat->Bool)(w:World)(i:Value)(wr:World):Prop:=
 ∃k:Nat,k<=4/\i=jA k/\FourW wr w.heap.size (setF (upW f (λx=>f x||h x) k))/\FourW wr (w.heap.size+1) (setF h)/\FourW wr (w.heap.size+2) (setF λ_=>false)/\w wr
theorem zer(f h:Nat->Bool)(w:World):
 Calls prog 213 #[setA (setF f),setA (setF h)] w (zb2 (setF λx=>f x||h x) w):=by
 have D:∀W,W=((w.alloc (.cells #[jB (setF f).a,jB (setF f).b,jB (setF f).c,jB (setF f).d] 95)).alloc (.cells #[jB (setF h).a,jB (setF h).b,jB (setF h).c,jB (setF h).d] 95)).alloc (.cells #[jB 0,jB 0,jB 0,jB 0] 95)->zy0 f h w (jA 0) W:=λW t=>by
  refine⟨0,by omega,rfl,?_,?_,?_,?_⟩
  ·rw[zoO,t]
   exact(Qs _ _ _ (by simp;omega)).trans ((Qs _ _ _ (by simp)).trans (Qv w _))
  ·rw[t]
   have:=Qv (w.alloc (.cells #[jB (setF f).a,jB (setF f).b,jB (setF f).c,jB (setF f).d] 95)) (.cells #[jB (setF h).a,jB (setF h).b,jB (setF h).c,jB (setF h).d] 95);rw[Qp]at this;exact(Qs _ _ _ (by simp)).trans this
  ·have:=FourW.new ((w.alloc (.cells #[jB (setF f).a,jB (setF f).b,jB (setF f).c,jB (setF f).d] 95)).alloc (.cells #[jB (setF h).a,jB (setF h).b,jB (setF h).c,jB (setF h).d] 95))
   rw[Qp,Qp]at this;rw[t];exact this
  ·rw[t]
   exact(WaL.alloc (by simp) _).alloc (by simp;omega) _
 have A:=hIx D;clear D;have C:Hid (setF (upW f (λx=>f x||h x) 4)=setF λx=>f x||h x):=zt8 _ _;unfold setA
 go_in
 go_wp2
 go_loopw [5,6] (λ_ i wr=>zy0 f h w i wr) (λ_ i _=>4-(intOf i).toNat)
 case atStart=>exact A.out _ rfl
 case round=>
  obtain⟨k,T,rfl,j,u,m,hb⟩:=hrel
  by_cases e:k<4
  ·have I:decide ((k:Int)<4)=true:=by simp;omega
   have U:IntKind.i64.wrap ((k:Int)+1)=(k:Int)+1:=Qz _ (by omega);have l:=j.cell k e;have r:=u.cell k e;rw[zdz _ _ e]at l r;rw[zoo]at l;have B:=j.free k;have K:=zuL f h k;have n:=hIx (zok f (λx=>f x||h x) k e);have g:=j.put k e ((wdF (λx=>f x||h x) k:Nat):Int);rw[n.out]at g;have o:=u.far (k:=w.heap.size) (by omega) k (.int .u64 ((wdF (λx=>f x||h x) k:Nat):Int));have q:=m.far (k:=w.heap.size) (by omega) k (.int .u64 ((wdF (λx=>f x||h x) k:Nat):Int));have s:=hb.setCell (p:=⟨w.heap.size,k,none⟩) (Qd _) (.int .u64 ((wdF (λx=>f x||h x) k:Nat):Int));generalize wdF (λx=>f x||h x) k=H at *;generalize wdF f k=Q at *;generalize wdF h k=w2 at *;have y:=hIx (And.intro g (And.intro o (And.intro q s)));clear j u m hb g o q s n C A;go_wp2_with fail
   go_region
   generalize z:wr.setCell ⟨w.heap.size,k,none⟩ (jB (H:Int))=w3 at *;clear z l r B;go_wp2;exact⟨⟨k+1,by omega,rfl,y.out.1.drew,y.out.2.1.drew,y.out.2.2.1.drew,y.out.2.2.2.drew⟩,by dsimp only[intOf];omega⟩
  ·obtain rfl:k=4:=by omega
   have I:decide (((4:Nat):Int)<4)=false:=by decide
   rw[C.out]at j;generalize E:setF (λx=>f x||h x)=S at *;have N:=hIx E;clear E;have c0:=j.cells;have V:=m.cells;have X:=m.free;have P:=hIx (m.fill S);have G:=hIx ((((hb.setCell (p:=⟨w.heap.size+2,0,none⟩) (by show w.heap.size<=w.heap.size+2;omega) (jB S.a)).setCell (p:=⟨w.heap.size+2,1,none⟩) (by show w.heap.size<=w.heap.size+2;omega) (jB S.b)).setCell (p:=⟨w.heap.size+2,2,none⟩) (by show w.heap.size<=w.heap.size+2;omega) (jB S.c)).setCell (p:=⟨w.heap.size+2,3,none⟩) (by show w.heap.size<=w.heap.size+2;omega) (jB S.d));clear j u m hb C A;go_wp2_with fail;have ⟨J,L,F,O⟩:=P.out.cells;exact QD (v:=setA S) (by simp[results,results213,go_sem,J,L,F,O,setA]) rfl ⟨by rw[N.out],G.out⟩
theorem zv5(f:Nat->Bool)(j:Nat):bits .xor .u64 (if IntKind.u64.signed=true then -1 else IntKind.u64.max) ((wdF f j:Nat):Int)=((wdF (λx=>!f x) j:Nat):Int):=by
 have e:(if IntKind.u64.signed=true then -1 else IntKind.u64.max)=((18446744073709551615:Nat):Int):=rfl;rw[e,bits_xor_u64_nat _ _ (by decide) (ziR _ _)]
 congr 1
 refine ZD λi=>?_
 rw[Nat.testBit_xor,show (18446744073709551615:Nat)=2 ^ 64-1 from rfl,Nat.testBit_two_pow_sub_one,za4,za4]
 by_cases a:i<64
 ·simp[a]
 ·simp[a]
def zzT(f:Nat->Bool)(w:World)(i:Value)(wr:World):Prop:=
 ∃k:Nat,k<=4/\i=jA k/\FourW wr w.heap.size (setF (upW f (λx=>!f x) k))/\FourW wr (w.heap.size+1) (setF λ_=>false)/\w wr
theorem zoA(f:Nat->Bool)(w:World):
 Calls prog 192 #[setA (setF f)] w (zb2 (setF λx=>!f x) w):=by
 have u:∀W,W=(w.alloc (.cells #[jB (setF f).a,jB (setF f).b,jB (setF f).c,jB (setF f).d] 95)).alloc (.cells #[jB 0,jB 0,jB 0,jB 0] 95)->zzT f w (jA 0) W:=λW q=>by
  refine⟨0,by omega,rfl,?_,?_,?_⟩
  ·rw[zoO,q]
   exact(Qs _ _ _ (by simp)).trans (Qv w _)
  ·have:=FourW.new (w.alloc (.cells #[jB (setF f).a,jB (setF f).b,jB (setF f).c,jB (setF f).d] 95))
   rw[Qp]at this;rw[q];exact this
  ·rw[q]
   exact WaL.alloc (by simp) _
 have o:=hIx u;clear u;have r:Hid (setF (upW f (λx=>!f x) 4)=setF λx=>!f x):=zt8 _ _;unfold setA
 go_in
 go_wp2
 go_loopw [3,4] (λ_ i wr=>zzT f w i wr) (λ_ i _=>4-(intOf i).toNat)
 case atStart=>exact o.out _ rfl
 case round=>
  obtain⟨k,K,rfl,h,j,hb⟩:=hrel
  by_cases e:k<4
  ·have C:decide ((k:Int)<4)=true:=by simp;omega
   have N:IntKind.i64.wrap ((k:Int)+1)=(k:Int)+1:=Qz _ (by omega);have s:=h.cell k e;rw[zdz _ _ e,zoo]at s;have z:=h.free k;have E:=zv5 f k;have n:=hIx (zok f (λx=>!f x) k e);have g:=h.put k e ((wdF (λx=>!f x) k:Nat):Int);rw[n.out]at g;have l:=j.far (k:=w.heap.size) (by omega) k (jB ((wdF (λx=>!f x) k:Nat):Int));have m:=hb.setCell (p:=⟨w.heap.size,k,none⟩) (Qd _) (jB ((wdF (λx=>!f x) k:Nat):Int));generalize wdF (λx=>!f x) k=L at *;generalize wdF f k=J at *;have t:=hIx (And.intro g (And.intro l m));clear h j hb g l m n r o;go_wp2;exact⟨⟨k+1,by omega,rfl,t.out.1,t.out.2.1,t.out.2.2⟩,by dsimp only[intOf];omega⟩
  ·obtain rfl:k=4:=by omega
   have C:decide (((4:Nat):Int)<4)=false:=by decide
   rw[r.out]at h;generalize y:setF (λx=>!f x)=S at *;have G:=hIx y;clear y;have c0:=h.cells;have O:=j.cells;have P:=j.free;have I:=hIx (j.fill S);have B:=hIx ((((hb.setCell (p:=⟨w.heap.size+1,0,none⟩) (by show w.heap.size<=w.heap.size+1;omega) (jB S.a)).setCell (p:=⟨w.heap.size+1,1,none⟩) (by show w.heap.size<=w.heap.size+1;omega) (jB S.b)).setCell (p:=⟨w.heap.size+1,2,none⟩) (by show w.heap.size<=w.heap.size+1;omega) (jB S.c)).setCell (p:=⟨w.heap.size+1,3,none⟩) (by show w.heap.size<=w.heap.size+1;omega) (jB S.d));clear h j hb r o;go_wp2_with fail;have ⟨D,F,A,H⟩:=I.out.cells;exact QD (v:=setA S) (by simp[results,results192,go_sem,D,F,A,H,setA]) rfl ⟨by rw[G.out],B.out⟩
theorem zcn{a w w':World}{row:Option Nat}(h:a.grownBy w row)(hb:Below a.heap.size w w'):a.grownBy w' row:=
 ⟨hb.os.trans h.os,hb.tape.trans h.tape,hb.output.trans h.output,Ql h.size hb.size,λi c b=>(hb.block i c).trans (h.block i c b)⟩
theorem zfw{g:Nat}{s:ByteArray}{r:RS}{w W:World}(h:RdAt g s r w)(hb:w W):RdEnd g s r w W:=⟨h.below hb,zcn (zaZ w _) hb⟩
theorem RdEnd.low{g:Nat}{s:ByteArray}{r:RS}{w W W':World}(a:g<w.heap.size)(h:RdEnd g s r w W)(hb:Below w.heap.size W W'):RdEnd g s r w W':=⟨(hb.block g a).trans h.1,zcn h.2 hb⟩
def zcy(W:World)(k:Nat)(S:Set4):World:=(((W.setCell k (jB S.a)).setCell ⟨k,1,none⟩ (jB S.b)).setCell ⟨k,2,none⟩ (jB S.c)).setCell ⟨k,3,none⟩ (jB S.d)
theorem zba{W w:World}{B k:Nat}(h:Below B w W)(a:B<=k)(S:Set4):Below B w (zcy W k S):=
 (((h.setCell (p:=⟨k,0,none⟩) a _).setCell (p:=⟨k,1,none⟩) a _).setCell (p:=⟨k,2,none⟩) a _).setCell (p:=⟨k,3,none⟩) a _
theorem zbr{W:World}{k:Nat}{Z:Set4}(h:FourW W k Z)(S:Set4):FourW (zcy W k S) k S:=h.fill S
def rgF(a b:Nat):Nat->Bool:=λx=>decide (a<=x)&&decide (x<=b)
def zwb:Nat->Bool:=λx=>(rgF 97 122 x||rgF 65 90 x)||(rgF 48 57 x||rgF 95 95 x)
def spcF:Nat->Bool:=λx=>rgF 9 13 x||rgF 32 32 x
def zmJ(b:UInt8):Option (Nat->Bool):=if b=100 then some (rgF 48 57)else if b=119 then some zwb else if b=115 then some spcF else none
def zbp(s:jE)(r:RS):Option (Nat->Bool) × RS:=
 if zaf s r=92 then match s[r.pos+1]? with
  |none=>(none,r)
  |some b=>match zmJ b with
   |none=>(none,r)
   |some f=>(some f,{r with pos:=r.pos+2})
 else (none,r)
def zrL(g:Nat)(s:ByteArray)(R:Option (Nat->Bool) × RS)(w:World)(e:Ending)(w':World):Prop:=
 e=jC (.tuple #[setA (match R.1 with|some f=>setF f|none=>.zero),.bool R.1.isSome])/\RdEnd g s R.2 w w'
theorem zfK(g:Nat)(s:ByteArray)(r:RS)(w:World)(h:RdAt g s r w)(hp:r.pos<=s.size)(hs:s.size<=4096):
 Calls prog 195 #[.pointer g] w (zrL g s (zbp s.data.toList r) w):=by
 have hD:=zdl (s:=s.data.toList) (r:=r);have hC:s.data.toList.length=s.size:=by simp
 have hw:0<=zaf s.data.toList r->r.pos<s.size:=λh=>by have:=(zaU rfl h).1;omega
 obtain⟨W0,hi⟩:∃W0,w.alloc (.cells #[jB 0,jB 0,jB 0,jB 0] 95)=W0:=⟨_,rfl⟩
 have hz:FourW W0 w.heap.size .zero:=by rw[<-hi];have:=FourW.new w;rw[zik]at this;exact this
 have ho:w W0:=by rw[<-hi];exact WaL
 have h0:RdAt g s r W0:=h.below ho;have HN:Hid (∀n,Calls prog 130 #[.pointer g] (W0.drewN n) λe w'=>e=jC (jA (zaf s.data.toList r))/\∃m,w'=(W0.drewN n).drewN m):=λn=>zf5 g s r _ (h0.drew n) hp
 have h4:Hid (zbp s.data.toList r=if zaf s.data.toList r=92 then match s.data.toList[r.pos+1]? with
  |none=>(none,r)
  |some b=>match zmJ b with
   |none=>(none,r)
   |some f=>(some f,{r with pos:=r.pos+2})
 else (none,r)):=rfl
 generalize zbp s.data.toList r=R at *;generalize zaf s.data.toList r=N at *;have c0:=h0.cells;have i7:IntKind.i64.wrap ((r.pos:Int)+1)=((r.pos+1:Nat):Int):=Qz _ (by omega);have hv:=hIx hi;have H:=hIx (And.intro h (And.intro h0 (And.intro hz ho)));clear hi h h0 hz ho
 go_in
 go_upto_region 1 with fail
 rw[hv.out]
 by_cases q0:N=92
 rotate_left
 ·have d0:(N != 92)=true:=Q6.2 q0
  have HD:Hid (R=(none,r)):=by unfold Hid;rw[h4.out,Qf q0]
  clear h4 q0
  go_quiet ((go_at_call 130;exact Calls.quiet_of (HN.out _)))
  obtain⟨i,F⟩:∃i,W0.drewN nq=i:=⟨_,rfl⟩
  have hq:FourW i w.heap.size .zero/\w i:=by rw[<-F];exact⟨H.out.2.2.1,below_drewN H.out.2.2.2 nq⟩
  rw[F];have HZ:=hIx (zbr hq.1 .zero);have HE:=hIx (zfw H.out.1 (zba hq.2 (Qd _) .zero));have z0:=hq.1.cells;have y0:=hq.1.free;clear F hq H c0;go_wp2_with fail;have ⟨P,U,X,V⟩:=HZ.out.cells;unfold zcy Set4.zero at P U X V;exact QD (v:=.tuple #[setA .zero,.bool false]) (by simp[results,results195,go_sem,P,U,X,V,setA,Set4.zero]) rfl (by rw[HD.out];exact⟨rfl,HE.out⟩)
 ·subst q0
  have hB:=hw (by omega)
  by_cases hk:r.pos+1=s.size
  ·have d1:(((r.pos+1:Nat):Int)==(s.size:Int))=true:=by rw[Zn];omega
   have HD:Hid (R=(none,r)):=by unfold Hid;rw[h4.out,Qj rfl,List.getElem?_eq_none (by omega)]
   clear h4 hk
   go_quiet ((go_at_call 130;exact Calls.quiet_of (HN.out _)))
   obtain⟨i,F⟩:∃i,W0.drewN nq=i:=⟨_,rfl⟩
   have hq:FourW i w.heap.size .zero/\w i:=by rw[<-F];exact⟨H.out.2.2.1,below_drewN H.out.2.2.2 nq⟩
   rw[F];have HZ:=hIx (zbr hq.1 .zero);have HE:=hIx (zfw H.out.1 (zba hq.2 (Qd _) .zero));have z0:=hq.1.cells;have y0:=hq.1.free;clear F hq H c0;go_wp2_with fail;have ⟨P,U,X,V⟩:=HZ.out.cells;unfold zcy Set4.zero at P U X V;exact QD (v:=.tuple #[setA .zero,.bool false]) (by simp[results,results195,go_sem,P,U,X,V,setA,Set4.zero]) rfl (by rw[HD.out];exact⟨rfl,HE.out⟩)
  ·have hA:r.pos+1<s.size:=by omega
   have d1:(((r.pos+1:Nat):Int)==(s.size:Int))=false:=by rw[Qc];omega
   have J:Hid (R=match zmJ s[r.pos+1]with
    |none=>(none,r)
    |some f=>(some f,{r with pos:=r.pos+2})):=by unfold Hid;rw[h4.out,Qj rfl,Xt s (r.pos+1) hA]
   clear h4 hk
   go_quiet ((go_at_call 130;exact Calls.quiet_of (HN.out _)))
   obtain⟨i,F⟩:∃i,W0.drewN nq=i:=⟨_,rfl⟩
   have hq:FourW i w.heap.size .zero/\w i/\RdAt g s r i/\w.heap.size<i.heap.size:=by
    have hz:w.heap.size<W0.heap.size:=by rw[<-hv.out];simp
    rw[<-F];exact⟨H.out.2.2.1,below_drewN H.out.2.2.2 nq,H.out.2.1.drew nq,hz⟩
   rw[F];obtain⟨hy,hx,hm,L⟩:=hq;have c0:=hm.cells;clear F HN;generalize hb:s[r.pos+1]=b at *;obtain⟨W1,hh⟩:∃W1,i.alloc (.cells #[jB 0,jB 0,jB 0,jB 0] 95)=W1:=⟨_,rfl⟩
   have hg:i W1:=by rw[<-hh];exact WaL
   have Z:FourW W1 i.heap.size .zero:=by rw[<-hh];have:=FourW.new i;rw[zik]at this;exact this
   have G:FourW W1 w.heap.size .zero:=hy.below hg L;have O:RdAt g s r W1:=hm.below hg;have hu:=hIx hh;clear hh;go_upto_region 4 with fail
   rw[hu.out];have hE:((r.pos+1:Nat):Int).toNat=r.pos+1:=by omega
   have c0:=O.cells
   go_quiet (fail)
   obtain⟨wr,ht⟩:∃wr,W1.drewN nq=wr:=⟨_,rfl⟩
   have hr:FourW wr i.heap.size .zero/\FourW wr w.heap.size .zero/\RdAt g s r wr/\w wr/\i.heap.size<wr.heap.size:=by
    have hz:i.heap.size<W1.heap.size:=by rw[<-hu.out];simp
    rw[<-ht];exact⟨Z,G,O.drew nq,below_drewN (hx.trans (hg.mono (QZ L))) nq,hz⟩
   rw[ht];clear ht hu hg Z G O hy hx hm c0 hv;obtain⟨Z,G,O,h5,h3⟩:=hr;have hn:=h5.size;have u:=Qi wr.heap.size wr;have H1:Hid (∀W,Calls prog 75 #[jA 48,jA 57] W (zb2 (setF (rgF 48 57)) W)):=λW=>zcv 48 57 (by decide) (by decide) W
   have H2:Hid (∀W,Calls prog 75 #[jA 97,jA 122] W (zb2 (setF (rgF 97 122)) W)):=λW=>zcv 97 122 (by decide) (by decide) W
   have H3:Hid (∀W,Calls prog 75 #[jA 65,jA 90] W (zb2 (setF (rgF 65 90)) W)):=λW=>zcv 65 90 (by decide) (by decide) W
   have H4:Hid (∀W,Calls prog 75 #[jA 95,jA 95] W (zb2 (setF (rgF 95 95)) W)):=λW=>zcv 95 95 (by decide) (by decide) W
   have H5:Hid (∀W,Calls prog 75 #[jA 9,jA 13] W (zb2 (setF (rgF 9 13)) W)):=λW=>zcv 9 13 (by decide) (by decide) W
   have H6:Hid (∀W,Calls prog 75 #[jA 32,jA 32] W (zb2 (setF (rgF 32 32)) W)):=λW=>zcv 32 32 (by decide) (by decide) W
   by_cases b1:b=100
   ·subst b1
    have q1:(((100:UInt8).toNat:Int)==100)=true:=rfl;go_wp2_with (go_at_call 75;apply Hid.out);unfold Hid;refine(H1.out wr).mono ?_;rintro e wa ⟨rfl,o⟩;have j:=u.trans (o.mono u.size);clear o;have y:FourW wa i.heap.size .zero:=(j.block _ h3).trans Z;have I:FourW wa w.heap.size .zero:=(j.block _ (ZA L h3)).trans G;have hf:RdAt g s r wa:=O.below j;have x0:=y.cells;have v0:=y.free;obtain⟨S,hS⟩:∃S,setF (rgF 48 57)=S:=⟨_,rfl⟩
    have HS:=hIx hS;have HD:Hid (R=(some (rgF 48 57),{r with pos:=r.pos+2})):=by unfold Hid;rw[J.out];rfl
    rw[show setA (setF (rgF 48 57))=setA S from by rw[hS]];unfold setA;have Y:=h5.trans (j.mono hn);have Q:FourW (zcy wa i.heap.size S) i.heap.size S:=zbr y S;have T:FourW (zcy wa i.heap.size S) w.heap.size .zero:=(((I.far (by omega) 0 _).far (by omega) 1 _).far (by omega) 2 _).far (by omega) 3 _;have K:w (zcy wa i.heap.size S):=zba Y (QZ L) S;clear hS y I hf Y J j;go_upto_region 12 with fail
    rw[show (((wa.setCell ⟨i.heap.size,0,none⟩ (jB S.a)).setCell ⟨i.heap.size,1,none⟩ (jB S.b)).setCell ⟨i.heap.size,2,none⟩ (jB S.c)).setCell ⟨i.heap.size,3,none⟩ (jB S.d)=zcy wa i.heap.size S from rfl];generalize zcy wa i.heap.size S=X1 at *;have q:=zfw H.out.1 K;have c0:=q.1.cells;have f1:=q.1.free 1;have B:RdEnd g s {r with pos:=r.pos+2} w (X1.setCell ⟨g,1,none⟩ (jA ((r.pos+2:Nat):Int))):=⟨q.1.setPos _,zao q.2 1 _⟩
    have A:=Q.far (k:=g) (by have:=H.out.1.lt;omega) 1 (jA ((r.pos+2:Nat):Int));have l:=T.far (k:=g) (by have:=H.out.1.lt;omega) 1 (jA ((r.pos+2:Nat):Int));have i2:IntKind.i64.wrap ((r.pos:Int)+2)=(r.pos:Int)+2:=Qz _ (by omega);have e2:((r.pos+2:Nat):Int)=(r.pos:Int)+2:=by omega
    rw[e2]at B A l;clear e2;clear Q T K q x0 v0;go_upto_region 13 with fail
    generalize X1.setCell ⟨g,1,none⟩ (jA ((r.pos:Int)+2))=X2 at *;have x0:=A.cells;have z0:=l.cells;have y0:=l.free;have HZ:=hIx (zbr l S);have HE:=hIx (RdEnd.low H.out.1.lt B (zba (Qi _ X2) (Qd _) S));clear A l B c0 f1;go_wp2_with fail;have ⟨P,U,X,V⟩:=HZ.out.cells;unfold zcy at P U X V;exact QD (v:=.tuple #[setA S,.bool true]) (by simp[results,results195,go_sem,P,U,X,V,setA]) rfl (by rw[HD.out];exact⟨by show _=jC (.tuple #[setA (setF (rgF 48 57)),.bool true]);rw[HS.out],HE.out⟩)
   by_cases b2:b=119
   ·subst b2
    have q0:(((119:UInt8).toNat:Int)==100)=false:=rfl;have q1:(((119:UInt8).toNat:Int)==119)=true:=rfl;go_wp2_with (go_at_call 75;apply Hid.out);unfold Hid;refine(H2.out wr).mono ?_;rintro e wa ⟨rfl,o⟩;have j:=u.trans (o.mono u.size);clear o;go_wp2_with (go_at_call 75;apply Hid.out);unfold Hid;refine(H3.out wa).mono ?_;rintro e wb ⟨rfl,z⟩;have C:=j.trans (z.mono j.size);clear z;go_wp2_with (go_at_call 213;apply Hid.out);unfold Hid;refine(zer (rgF 97 122) (rgF 65 90) wb).mono ?_;rintro e wc ⟨rfl,E⟩;have t:=C.trans (E.mono C.size);clear E;go_wp2_with (go_at_call 75;apply Hid.out);unfold Hid;refine(H1.out wc).mono ?_;rintro e wd ⟨rfl,h7⟩;have h8:=t.trans (h7.mono t.size);clear h7;go_wp2_with (go_at_call 75;apply Hid.out);unfold Hid;refine(H4.out wd).mono ?_;rintro e we ⟨rfl,ha⟩;have he:=h8.trans (ha.mono h8.size);clear ha;go_wp2_with (go_at_call 213;apply Hid.out);unfold Hid;refine(zer (rgF 48 57) (rgF 95 95) we).mono ?_;rintro e wf ⟨rfl,h9⟩;have hd:=he.trans (h9.mono he.size);clear h9;go_wp2_with (go_at_call 213;apply Hid.out);unfold Hid;refine(zer (λx=>rgF 97 122 x||rgF 65 90 x) (λx=>rgF 48 57 x||rgF 95 95 x) wf).mono ?_;rintro e wg ⟨rfl,h6⟩;have D:=hd.trans (h6.mono hd.size);clear h6
    have y:FourW wg i.heap.size .zero:=(D.block _ h3).trans Z;have I:FourW wg w.heap.size .zero:=(D.block _ (ZA L h3)).trans G;have hf:RdAt g s r wg:=O.below D;have x0:=y.cells;have v0:=y.free;obtain⟨S,hS⟩:∃S,setF (zwb)=S:=⟨_,rfl⟩
    have HS:=hIx hS;have HD:Hid (R=(some (zwb),{r with pos:=r.pos+2})):=by unfold Hid;rw[J.out];rfl
    rw[show setA (setF (λx=>(rgF 97 122 x||rgF 65 90 x)||(rgF 48 57 x||rgF 95 95 x)))=setA S from by rw[<-hS];rfl];unfold setA;have Y:=h5.trans (D.mono hn);have Q:FourW (zcy wg i.heap.size S) i.heap.size S:=zbr y S;have T:FourW (zcy wg i.heap.size S) w.heap.size .zero:=(((I.far (by omega) 0 _).far (by omega) 1 _).far (by omega) 2 _).far (by omega) 3 _;have K:w (zcy wg i.heap.size S):=zba Y (QZ L) S;clear hS y I hf Y J D;go_upto_region 12 with fail
    rw[show (((wg.setCell i.heap.size (jB S.a)).setCell ⟨i.heap.size,1,none⟩ (jB S.b)).setCell ⟨i.heap.size,2,none⟩ (jB S.c)).setCell ⟨i.heap.size,3,none⟩ (jB S.d)=zcy wg i.heap.size S from rfl];generalize zcy wg i.heap.size S=X1 at *;have q:=zfw H.out.1 K;have c0:=q.1.cells;have f1:=q.1.free 1;have B:RdEnd g s {r with pos:=r.pos+2} w (X1.setCell ⟨g,1,none⟩ (jA ((r.pos+2:Nat):Int))):=⟨q.1.setPos _,zao q.2 1 _⟩
    have A:=Q.far (k:=g) (by have:=H.out.1.lt;omega) 1 (jA ((r.pos+2:Nat):Int));have l:=T.far (k:=g) (by have:=H.out.1.lt;omega) 1 (jA ((r.pos+2:Nat):Int));have i2:IntKind.i64.wrap ((r.pos:Int)+2)=(r.pos:Int)+2:=Qz _ (by omega);have e2:((r.pos+2:Nat):Int)=(r.pos:Int)+2:=by omega
    rw[e2]at B A l;clear e2;clear Q T K q x0 v0;go_upto_region 13 with fail
    generalize X1.setCell ⟨g,1,none⟩ (jA ((r.pos:Int)+2))=X2 at *;have x0:=A.cells;have z0:=l.cells;have y0:=l.free;have HZ:=hIx (zbr l S);have HE:=hIx (RdEnd.low H.out.1.lt B (zba (Qi _ X2) (Qd _) S));clear A l B c0 f1;go_wp2_with fail;have ⟨P,U,X,V⟩:=HZ.out.cells;unfold zcy at P U X V;exact QD (v:=.tuple #[setA S,.bool true]) (by simp[results,results195,go_sem,P,U,X,V,setA]) rfl (by rw[HD.out];exact⟨by show _=jC (.tuple #[setA (setF (zwb)),.bool true]);rw[HS.out],HE.out⟩)
   by_cases b3:b=115
   ·subst b3
    have q0:(((115:UInt8).toNat:Int)==100)=false:=rfl;have q1:(((115:UInt8).toNat:Int)==119)=false:=rfl;have q2:(((115:UInt8).toNat:Int)==115)=true:=rfl;go_wp2_with (go_at_call 75;apply Hid.out);unfold Hid;refine(H5.out wr).mono ?_;rintro e wa ⟨rfl,o⟩;have j:=u.trans (o.mono u.size);clear o;go_wp2_with (go_at_call 75;apply Hid.out);unfold Hid;refine(H6.out wa).mono ?_;rintro e wb ⟨rfl,z⟩;have C:=j.trans (z.mono j.size);clear z;go_wp2_with (go_at_call 213;apply Hid.out);unfold Hid;refine(zer (rgF 9 13) (rgF 32 32) wb).mono ?_;rintro e wc ⟨rfl,E⟩;have t:=C.trans (E.mono C.size);clear E;have y:FourW wc i.heap.size .zero:=(t.block _ h3).trans Z;have I:FourW wc w.heap.size .zero:=(t.block _ (ZA L h3)).trans G;have hf:RdAt g s r wc:=O.below t;have x0:=y.cells;have v0:=y.free;obtain⟨S,hS⟩:∃S,setF (spcF)=S:=⟨_,rfl⟩
    have HS:=hIx hS;have HD:Hid (R=(some (spcF),{r with pos:=r.pos+2})):=by unfold Hid;rw[J.out];rfl
    rw[show setA (setF (λx=>rgF 9 13 x||rgF 32 32 x))=setA S from by rw[<-hS];rfl];unfold setA;have Y:=h5.trans (t.mono hn);have Q:FourW (zcy wc i.heap.size S) i.heap.size S:=zbr y S;have T:FourW (zcy wc i.heap.size S) w.heap.size .zero:=(((I.far (by omega) 0 _).far (by omega) 1 _).far (by omega) 2 _).far (by omega) 3 _;have K:w (zcy wc i.heap.size S):=zba Y (QZ L) S;clear hS y I hf Y J t;go_upto_region 12 with fail
    rw[show (((wc.setCell i.heap.size (jB S.a)).setCell ⟨i.heap.size,1,none⟩ (jB S.b)).setCell ⟨i.heap.size,2,none⟩ (jB S.c)).setCell ⟨i.heap.size,3,none⟩ (jB S.d)=zcy wc i.heap.size S from rfl];generalize zcy wc i.heap.size S=X1 at *;have q:=zfw H.out.1 K;have c0:=q.1.cells;have f1:=q.1.free 1;have B:RdEnd g s {r with pos:=r.pos+2} w (X1.setCell ⟨g,1,none⟩ (jA ((r.pos+2:Nat):Int))):=⟨q.1.setPos _,zao q.2 1 _⟩
    have A:=Q.far (k:=g) (by have:=H.out.1.lt;omega) 1 (jA ((r.pos+2:Nat):Int));have l:=T.far (k:=g) (by have:=H.out.1.lt;omega) 1 (jA ((r.pos+2:Nat):Int));have i2:IntKind.i64.wrap ((r.pos:Int)+2)=(r.pos:Int)+2:=Qz _ (by omega);have e2:((r.pos+2:Nat):Int)=(r.pos:Int)+2:=by omega
    rw[e2]at B A l;clear e2;clear Q T K q x0 v0;go_upto_region 13 with fail
    generalize X1.setCell ⟨g,1,none⟩ (jA ((r.pos:Int)+2))=X2 at *;have x0:=A.cells;have z0:=l.cells;have y0:=l.free;have HZ:=hIx (zbr l S);have HE:=hIx (RdEnd.low H.out.1.lt B (zba (Qi _ X2) (Qd _) S));clear A l B c0 f1;go_wp2_with fail;have ⟨P,U,X,V⟩:=HZ.out.cells;unfold zcy at P U X V;exact QD (v:=.tuple #[setA S,.bool true]) (by simp[results,results195,go_sem,P,U,X,V,setA]) rfl (by rw[HD.out];exact⟨by show _=jC (.tuple #[setA (setF (spcF)),.bool true]);rw[HS.out],HE.out⟩)
   have hj:∀c:UInt8,b≠c->((b.toNat:Int)==(c.toNat:Int))=false:=λc hc=>Qc.2 λe=>hc (Zr.1 (by omega))
   have q0:((b.toNat:Int)==100)=false:=hj 100 b1;have q1:((b.toNat:Int)==119)=false:=hj 119 b2;have q2:((b.toNat:Int)==115)=false:=hj 115 b3;have HD:Hid (R=(none,r)):=by unfold Hid;rw[J.out];unfold zmJ;rw[Qf b1,Qf b2,Qf b3]
   have HZ:=hIx (zbr G .zero);have HE:=hIx (zfw H.out.1 (zba h5 (Qd _) .zero));have z0:=G.cells;have y0:=G.free;clear H H1 H2 H3 H4 H5 H6 J hj b1 b2 b3 Z G O h5 u;go_wp2_with fail;have ⟨P,U,X,V⟩:=HZ.out.cells;unfold zcy Set4.zero at P U X V;exact QD (v:=.tuple #[setA .zero,.bool false]) (by simp[results,results195,go_sem,P,U,X,V,setA,Set4.zero]) rfl (by rw[HD.out];exact⟨rfl,HE.out⟩)
