/- Lemmas for the last texts. -/
import Derived.Test.YtnnokglddolglaaGreatDoorM17
import Derived.Lib.Join
set_option maxHeartbeats 3200000
set_option maxRecDepth 100000
namespace Go.Proofs.YtnnokglddolglaaGreatDoor
open Go.RowKit Go.Proofs.Tryz
def zki(step:UInt8->jE->jE × Nat):Nat->jE->jE
 |0,_=>[]
 |_+1,[]=>[]
 |f+1,b::r=>(step b r).1++zki step f (r.drop (step b r).2)
def scan(step:UInt8->jE->jE × Nat)(l:jE):jE:=zki step l.length l
theorem znf(step:UInt8->jE->jE × Nat):∀(f g:Nat) (l:jE),l.length<=f->l.length<=g->zki step f l=zki step g l:=by
 intro f
 induction f with
 |zero=>
  intro g l a _;have:l=[]:=QA (by omega);subst this;cases g <;> rfl
 |succ f ih=>
  intro g l a c;cases l with
  |nil=>cases g <;> rfl
  |cons b r=>
   cases g with
   |zero=>simp at c
   |succ g=>
    simp only[Qn]at a c;unfold zki;rw[ih g (r.drop (step b r).2) (by rw[QM];omega) (by rw[QM];omega)]
theorem zoT(step:UInt8->jE->jE × Nat):scan step []=[]:=rfl
theorem zd7(step:UInt8->jE->jE × Nat)(b:UInt8)(r:jE):scan step (b::r)=(step b r).1++scan step (r.drop (step b r).2):=by
 unfold scan;rw[Qn,zki];rw[znf step r.length (r.drop (step b r).2).length (r.drop (step b r).2) (by rw[QM];omega) (Qc _)]
theorem zxw(step:UInt8->jE->jE × Nat)(c:jE->Prop)(t:jE)
 (h:∀b r,c (b::r)->step b (r++t)=step b r/\(step b r).2<=r.length/\(r.drop (step b r).2=[]\/c (r.drop (step b r).2))):
 ∀(n:Nat) (s:jE),s.length<=n->(s=[]\/c s)->scan step (s++t)=scan step s++scan step t:=by
 intro n
 induction n with
 |zero=>
  intro s hl _;have:s=[]:=QA (by omega);subst this;rfl
 |succ n ih=>
  intro s hl a;cases s with
  |nil=>rfl
  |cons b r=>
   rcases a with d|d
   ·cases d
   ·obtain⟨h1,h2,e⟩:=h b r d
    simp only[Qn]at hl;rw[ZQ,zd7,h1,zd7,QG,Z3 h2];rw[ih (r.drop (step b r).2) (by rw[QM];omega) e]
def zcY(l:jE):Int:=
 match l with
 |a::b::_=>if zaq a<0\/zaq b<0 then -1 else zaq a*16+zaq b
 |_=>-1
theorem zjX(a b:UInt8)(r:jE):zcY (a::b::r)=if zaq a<0\/zaq b<0 then -1 else zaq a*16+zaq b:=rfl
theorem ze9(b:UInt8):-1<=zaq b/\zaq b<=15:=
 Zr (zcq (p:=λb=>decide (-1<=zaq b/\zaq b<=15)) (by decide+kernel) b)
theorem zcT(l:jE):-1<=zcY l/\zcY l<=255/\(0<=zcY l->2<=l.length):=by
 match l with
 | []=>exact⟨by decide,by decide,λh=>absurd h (by decide)⟩
 | [a]=>exact⟨by simp[zcY],by simp[zcY],λh=>absurd h (by simp[zcY])⟩
 |a::b::r=>
  have h1:=ze9 a;have h2:=ze9 b;rw[zjX];simp only[Qn]
  split <;> exact⟨by omega,by omega,λ_=>by omega⟩
def zb5(b:UInt8)(r:jE):jE × Nat:=
 if b=43 then ([32],0)else if b=37/\0<=zcY r then ([UInt8.ofNat (zcY r).toNat],2)else ([b],0)
def zcf(l:jE):jE:=scan zb5 l
theorem zp5(b:UInt8)(r:jE):(zb5 b r).2<=r.length/\(zb5 b r).1.length=1:=by
 unfold zb5;have h:=(zcT r).2.2
 split
 ·exact⟨Qm _,rfl⟩
 ·split
  ·rename_i h2;exact⟨h h2.2,rfl⟩
  ·exact⟨Qm _,rfl⟩
def ziw:Nat->jE->Option jE
 |0,_=>some []
 |f+1,l=>if l.length=0 then some []else if zcY l<0 then none else (ziw f (l.drop 2)).map (UInt8.ofNat (zcY l).toNat::·)
def zbN(l:jE):Option jE:=ziw l.length l
theorem zqP:∀(f g:Nat) (l:jE),l.length<=f->l.length<=g->ziw f l=ziw g l:=by
 intro f
 induction f with
 |zero=>
  intro g l b _;cases g with
  |zero=>rfl
  |succ g=>unfold ziw;rw[Qg (by omega)]
 |succ f ih=>
  intro g l b c;cases g with
  |zero=>unfold ziw;rw[Qg (by omega)]
  |succ g=>
   unfold ziw
   by_cases a:l.length=0
   ·rw[Qg a,Qg a]
   ·rw[Qe a,Qe a,ih g _ (by rw[QM];omega) (by rw[QM];omega)]
theorem zgp:zbN []=some []:=rfl
theorem zjA(l:jE)(h:0<l.length)(a:zcY l<0):zbN l=none:=by
 unfold zbN;rw[show l.length=l.length-1+1 by omega,ziw,Qe (by omega),Qg a]
theorem ziJ(l:jE)(h:0<l.length)(a:¬zcY l<0):zbN l=(zbN (l.drop 2)).map (UInt8.ofNat (zcY l).toNat::·):=by
 unfold zbN;rw[show ziw l.length l=ziw (l.length-1+1) l by rw[show l.length-1+1=l.length by omega],ziw,Qe (by omega),Qe a];rw[zqP (l.length-1) (l.drop 2).length _ (by rw[QM];omega) (Qc _)]
theorem zqI:∀(n:Nat) (l r:jE),l.length<=n->zbN l=some r->r.length*2=l.length:=by
 intro n
 induction n with
 |zero=>
  intro l r hl h;have:l=[]:=QA (by omega);subst this;rw[zgp]at h;cases h;rfl
 |succ n ih=>
  intro l r hl h
  by_cases b:l.length=0
  ·have:l=[]:=QA b
   subst this;rw[zgp]at h;cases h;rfl
  ·by_cases a:zcY l<0
   ·rw[zjA l (by omega) a]at h;cases h
   ·rw[ziJ l (by omega) a]at h
    obtain⟨x,c,rfl⟩:=XQ.1 h;have h2:=(zcT l).2.2 (by omega);have:=ih _ _ (by rw[QM];omega) c;rw[QM]at this;simp only[Qn];omega
theorem zha(s:ByteArray)(i:Int)(h:0<=i)(h1:i<=4611686018427387904)(w:World):
 Calls prog 111 #[.string s,jA i] w λe w'=>e=jC (jA (zcY (s.data.toList.drop i.toNat)))/\∃n,w'=w.drewN n:=by
 obtain⟨n,rfl⟩:=Zt h;rw[Q8];have x:s.data.toList.length=s.size:=by simp
 by_cases h2:n+2<=s.size
 ·have d:Hid (s.data.toList.drop n=s[n]::s[n+1]::s.data.toList.drop (n+2)):=by
   unfold Hid;rw[zaH s n (by omega),zaH s (n+1) (by omega)]
  have f:=hIx (zjX s[n] s[n+1] (s.data.toList.drop (n+2)));have q:=ze9 s[n];have r:=ze9 s[n+1];obtain⟨l,c⟩:=q;obtain⟨p,b⟩:=r;have A:(n:Int)<(s.size:Int):=by omega
  have u:(n:Int)+1<(s.size:Int):=by omega
  have y:0<=(n:Int)+1:=by omega
  have z:IntKind.i64.wrap ((n:Int)+1)=(n:Int)+1:=Qx _ (by omega);have v:((n:Int)+1).toNat=n+1:=by omega
  by_cases j:zaq s[n]<0
  ·go_in
   go_wp2_with fail
   go_quiet ((go_at_call 151;exact Q9 (zdk _ _)))
   go_wp2;go_ret;exact⟨by rw[d.out,f.out,Qg (Or.inl j)];rfl,_,rfl⟩
  ·by_cases t:zaq s[n+1]<0
   ·go_in
    go_wp2_with fail
    go_quiet ((go_at_call 151;exact Q9 (zdk _ _)))
    go_wp2;go_ret;exact⟨by rw[d.out,f.out,Qg (Or.inr t)];rfl,_,rfl⟩
   ·have k:0<=zaq s[n]:=by omega
    have m:0<=zaq s[n+1]:=by omega
    have o:=zzw (zaq s[n]) (zaq s[n+1]) k c m b;have a:=hIx (f.out.trans (Qe (by omega)))
    go_in
    go_wp2_with fail
    go_quiet ((go_at_call 151;exact Q9 (zdk _ _)))
    go_wp2;go_ret;exact⟨by rw[d.out,a.out];rfl,_,rfl⟩
 ·have a:Hid (zcY (s.data.toList.drop n)=-1):=by
   have g:(s.data.toList.drop n).length<2:=by rw[QM];omega
   have:=(zcT (s.data.toList.drop n))
   unfold Hid;omega
  go_in
  go_wp2;go_ret;exact⟨by rw[a.out];rfl,0,rfl⟩
def zy3(s:ByteArray)(w:World)(v i:Value)(wr:World):Prop:=
 ∃(k:Nat) (a:jE),k<=s.size/\i=jA k/\a.length<=k/\OwnB wr w.heap.size v a/\zcf s.data.toList=a++zcf (s.data.toList.drop k)/\w wr
theorem znY(n:Int)(a:0<=n)(h1:n<=255):((UInt8.ofNat n.toNat).toNat:Int)=n:=by
 rw[UInt8.toNat_ofNat',Nat.mod_eq_of_lt (by omega)];omega
theorem zdB(s:ByteArray)(w:World)(Y:s.size<=140737488351232):
 Calls prog 79 #[.string s] w (zbJ (bs (zcf s.data.toList)) w):=by
 have I:Hid (s.data.toList.length=s.size):=by unfold Hid;simp
 go_in
 go_wp2
 go_loopw [3,4] (λv i wr=>zy3 s w v i wr) (λ_ i _=>s.size-(intOf i).toNat)
 case atStart=>exact⟨0,[],Qm _,rfl,Qc _,OwnB.nil _ _,rfl,Qj _ _⟩
 case round=>
  obtain⟨k,f,X,rfl,J,c,K,l⟩:=hrel;have d:=l.size;have y:=hIx K;clear K
  by_cases D:k<s.size
  ·have C:=hIx (zaH s k D)
   have B:=hIx (zd7 zb5 s[k] (s.data.toList.drop (k+1)));have O:=s[k].toNat_lt
   by_cases a:s[k]=43
   ·have S:((s[k].toNat:Int)==43)=true:=by rw[a];decide
    have E:Hid (zb5 s[k] (s.data.toList.drop (k+1))=([32],0)):=by unfold Hid zb5;rw[Qg a]
    clear a;go_wp2_with (at_builtin;refine zaf rfl _ _ rfl w.heap.size _ f rfl (by exact c) (by exact d) _ [32] rfl 1 1 rfl rfl (by omega) ?_;intro v' q b a o);exact⟨⟨k+1,f++[32],by omega,by go_num,by simp;omega,b,by rw[y.out,C.out];unfold zcf;rw[B.out,E.out];simp,l.trans a⟩,by simp[intOf];omega⟩
   ·have S:((s[k].toNat:Int)==43)=false:=Qb.2 (λh=>a (Zs.1 (by show s[k].toNat=43;omega)))
    by_cases j:s[k]=37
    ·have W:((s[k].toNat:Int)==37)=true:=by rw[j];decide
     have x:=zcT (s.data.toList.drop (k+1));have u:Hid (0<=zcY (s.data.toList.drop (k+1))->zb5 s[k] (s.data.toList.drop (k+1))=([UInt8.ofNat (zcY (s.data.toList.drop (k+1))).toNat],2)):=λh=>by unfold zb5;rw[Qe a,Qg ⟨j,h⟩]
     have z:Hid (¬0<=zcY (s.data.toList.drop (k+1))->zb5 s[k] (s.data.toList.drop (k+1))=([s[k]],0)):=λh=>by unfold zb5;rw[Qe a,Qe (λg=>h g.2)]
     have m:=x.2.2;rw[QM,I.out]at m;obtain⟨P,N,_⟩:=x;obtain⟨n,F⟩:∃n,zcY (s.data.toList.drop (k+1))=n:=⟨_,rfl⟩
     rw[F]at u z m P N;have L:=hIx F;have T:=hIx j;clear F a j;have t:((k:Int)+1).toNat=k+1:=by omega
     have r:=hIx t;clear t
     by_cases A:0<=n
     ·have H:=m A
      have p:=hIx (u.out A);have U:=hIx (znY n A N);have G:Hid ([Value.int .u8 n]=[UInt8.ofNat n.toNat].map zdX):=by unfold Hid zdX;simp only[QW,Zu];rw[U.out]
      clear m;go_wp2_with (first|(go_at_call 111;refine(zha _ _ (by omega) (by omega) _).mono ?_;rintro e q ⟨rfl,nq,rfl⟩;rw[r.out,L.out])|(at_builtin;refine zaf rfl _ _ rfl w.heap.size _ f rfl (by exact c.drewN _) (by exact d) _ [UInt8.ofNat n.toNat] G.out 1 1 rfl rfl (by omega) ?_;intro v' q b a o));exact⟨⟨k+3,f++[UInt8.ofNat n.toNat],by omega,by first|go_num|(congr 1;omega),by simp;omega,b,by rw[y.out,C.out];unfold zcf;rw[B.out,p.out,Zz];simp,(below_drewN l _).trans a⟩,by simp[intOf];omega⟩
     ·have p:=hIx (z.out A)
      clear m;go_wp2_with (first|(go_at_call 111;refine(zha _ _ (by omega) (by omega) _).mono ?_;rintro e q ⟨rfl,nq,rfl⟩;rw[r.out,L.out])|(at_builtin;refine zaf rfl _ _ rfl w.heap.size _ f rfl (by exact c.drewN _) (by exact d) _ [s[k]] rfl 1 1 rfl rfl (by omega) ?_;intro v' q b a o));exact⟨⟨k+1,f++[s[k]],by omega,by go_num,by simp;omega,b,by rw[y.out,C.out];unfold zcf;rw[B.out,p.out];simp,(below_drewN l _).trans a⟩,by simp[intOf];omega⟩
    ·have W:((s[k].toNat:Int)==37)=false:=Qb.2 (λh=>j (Zs.1 (by show s[k].toNat=37;omega)))
     have E:Hid (zb5 s[k] (s.data.toList.drop (k+1))=([s[k]],0)):=by unfold Hid zb5;rw[Qe a,Qe (λg=>j g.1)]
     clear a j;go_wp2_with (at_builtin;refine zaf rfl _ _ rfl w.heap.size _ f rfl (by exact c) (by exact d) _ [s[k]] rfl 1 1 rfl rfl (by omega) ?_;intro v' q b a o);exact⟨⟨k+1,f++[s[k]],by omega,by go_num,by simp;omega,b,by rw[y.out,C.out];unfold zcf;rw[B.out,E.out];simp,l.trans a⟩,by simp[intOf];omega⟩
  ·have V:=c.string
   have Q:Hid (zcf s.data.toList=f):=by unfold Hid;rw[y.out,QN (by rw[I.out];omega)];unfold zcf;rw[zoT,QE]
   clear c;go_wp2;go_ret;exact⟨by rw[Q.out];rfl,l⟩
def argP(x:jE):Pair:=(bs (zcf (Lib.cut x [61]).1),bs (zcf (Lib.cut x [61]).2.1))
def accP(a:List jE):List Pair:=(a.filter λx=>!x.isEmpty).map argP
def zcP(l:jE):List Pair:=accP (splL 38 l)
theorem zrD(l:jE):(zcP l).length<=l.length:=by
 unfold zcP accP;rw[Qh];exact zuc 38 l
theorem zsE(a:List jE)(k:Nat)(h:k<a.length):accP (a.take (k+1))=accP (a.take k)++(if a[k].isEmpty then []else [argP a[k]]):=by
 unfold accP;rw[Qs h,ZW,Q2]
 congr 1
 cases a[k]with
 |nil=>rfl
 |cons b x=>rfl
theorem zrt(a:List jE)(k:Nat):(accP (a.take k)).length<=(accP a).length:=by
 unfold accP;rw[Qh,Qh];exact((List.take_sublist k a).filter _).length_le
theorem zv4(a:List jE):accP (a.take a.length)=accP a:=by rw[QZ]
theorem zfi{B n:Nat}{W w':World}(hb:Below B (W.drewN n) w'):Below B W w':=⟨hb.os,hb.tape,hb.output,hb.size,hb.block⟩
def zxh(a:List jE)(most:Int)(w b:World)(v i:Value)(wr:World):Prop:=
 ∃k:Nat,k<=a.length/\i=jA k/\OwnA wr (w.heap.size+1) v (accP (a.take k))/\Hid ((accP (a.take k)).length<=most.toNat)/\Below (w.heap.size+1) b wr
def zpw(l:jE)(w:World)(e:Ending)(w':World):Prop:=
 ∃v,e=jC (.tuple #[v,jA 0])/\OwnA w' w.heap.size v (zcP l)/\w w'
def zed(most:Int)(l:jE)(w:World)(e:Ending)(w':World):Prop:=
 ((zcP l).length<=most.toNat/\zpw l w e w')\/(most.toNat<(zcP l).length/\e=jC (.tuple #[jD 0 0,jA 2])/\w w')
theorem zoV(s:ByteArray)(most:Int)(w:World)(H:LibOk w)(hs:s.size<=4194304):
 Calls prog 48 #[.string s,jA most] w (zed most s.data.toList w):=by
 obtain⟨m0,D⟩:=H;have hj:0<w.heap.size:=QQ w _ D;have r:=strings_Split s ⟨#[38]⟩ m0 w (by omega) D (by decide);have E:=zbZ 38 s;have l:=Xh ⟨#[38]⟩ (by decide) 0 _ s rfl;generalize Lib.splitB ⟨#[38]⟩ 0 (Lib.countB s ⟨#[38]⟩) s=d at r E l;generalize Lib.countB s ⟨#[38]⟩=n at r l;rw[<-l]at r;have O:=hIx E;have K:=hIx r;clear E r l
 go_in
 go_wp2_with fail;refine K.out.mono ?_;rintro e G ⟨rfl,o⟩
 have y:∀W,Below (w.heap.size+1) G W->∀j (h:j<d.length),W.cell? ⟨w.heap.size,j,none⟩=some (.string d[j]):=λW hb j h=>by
  have h9:Below (w.alloc (.cells (d.map Value.string).toArray 9)).heap.size (w.alloc (.cells (d.map Value.string).toArray 9)) W:=by rw[<-o];rw[o];rw[o]at hb;simpa using hb
  rw[zao h9 j];simp[h]
 have T:G.heap.size=w.heap.size+1:=by rw[o];simp
 have t:w G:=by rw[o];exact WaL
 have Y:∀W,Below (w.heap.size+1) G W->W.cell? (0:)=some (jA m0):=λW hb=>((t.trans (hb.mono (Zc _))).cell (p:=⟨0,0,none⟩) hj).trans D
 have l:(splL 38 s.data.toList).length=d.length:=by rw[<-O.out,Qh]
 have I:s.data.toList.length=s.size:=by simp
 have hq:d.length<=4194305:=by have:=zdK 38 s.data.toList;omega
 have hh:=hIx y;have h3:=hIx Y;have C:=hIx t;have g:=hIx l;have Q:=hIx I;have U:w.heap.size+1<=G.heap.size:=Nat.le_of_eq T.symm;clear y Y t l I o T K;go_wp2
 go_loopw [6,15] (λv i wr=>zxh (splL 38 s.data.toList) most w G v i wr) (λ_ i _=>d.length-(intOf i).toNat)
 case atStart=>exact⟨0,Qm _,rfl,OwnA.nil _ _,Qm _,Qj _ _⟩
 case round=>
  obtain⟨k,hk,rfl,Z,B,N⟩:=hrel;rw[g.out]at hk;have q:w.heap.size+1<=wr.heap.size:=Ql U N.size;have ho:=zrt (splL 38 s.data.toList) k
  have hm:(accP (splL 38 s.data.toList)).length<=4194304:=by
   have:=zrD s.data.toList;rw[Q.out]at this;exact Ql this hs
  obtain⟨A,c,rfl,_⟩:=Z.form;have HO:=hIx Z;have S:=hIx N
  by_cases u:k<d.length
  ·have i7:IntKind.i64.wrap ((k:Int)+1)=(k:Int)+1:=Qx _ (by omega)
   have d1:decide ((k:Int)<(d.length:Int))=true:=by simp;omega
   have hc:=hh.out wr N k u;have z:=hIx (zsE (splL 38 s.data.toList) k (by rw[g.out];exact u))
   have HX:Hid (d[k].data.toList=(splL 38 s.data.toList)[k]'(by rw[g.out];exact u)):=by
    unfold Hid;have:=O.out;simp only[<-this,Zm]
   have he:d[k].size<=s.size:=by
    have h1:=zbV 38 s.data.toList _ (Qz (by rw[g.out];exact u));rw[<-HX.out]at h1;rw[Q.out]at h1;exact h1
   rw[<-HX.out]at z;generalize d[k]=x at hc HX z he;clear Z N;cases f:x.data.toList.isEmpty with
   |true=>
    have qx:x.toList.isEmpty=true:=by rw[QP];exact f
    have a:Hid (accP ((splL 38 s.data.toList).take (k+1))=accP ((splL 38 s.data.toList).take k)):=by unfold Hid;rw[z.out,Qg f,QE]
    clear f;go_wp2;exact⟨⟨k+1,by rw[g.out];omega,rfl,by rw[a.out];exact HO.out,by rw[a.out];exact B,S.out⟩,by dsimp only[intOf];omega⟩
   |false=>
    have qx:x.toList.isEmpty=false:=by rw[QP];exact f
    have a:Hid (accP ((splL 38 s.data.toList).take (k+1))=accP ((splL 38 s.data.toList).take k)++[argP x.data.toList]):=by unfold Hid;rw[z.out,Qe (by rw[f];decide)]
    have J:=zrt (splL 38 s.data.toList) (k+1);rw[a.out,Qa,QC]at J
    by_cases b:most<=((accP ((splL 38 s.data.toList).take k)).length:Int)
    ·have d2:decide (most<=((accP ((splL 38 s.data.toList).take k)).length:Int))=true:=Qu b
     have HP:Hid (zed most s.data.toList w (jC (.tuple #[jD 0 0,jA 2])) wr):=.inr ⟨by show most.toNat<(accP (splL 38 s.data.toList)).length;omega,rfl,C.out.trans (S.out.mono (Zc _))⟩;clear f b;go_wp2;exact Qi (v:=.tuple #[jD 0 0,jA 2]) (by simp[results,results48,go_sem]) rfl HP.out
    ·have d2:decide (most<=((accP ((splL 38 s.data.toList).take k)).length:Int))=false:=Qq b
     have h6:Hid ((accP ((splL 38 s.data.toList).take k)).length+1<=most.toNat):=by unfold Hid;omega
     clear b;have hcut:=strings_Cut x ⟨#[61]⟩ m0 wr (by omega) (h3.out wr S.out);have y:=zcM x.data.toList [61];have h5:x.data.toList.length=x.size:=by simp
     have hi:=hIx hcut;have X:(Lib.cut x.data.toList [61]).1.length<=4194304:=by omega
     have L:(Lib.cut x.data.toList [61]).2.1.length<=4194304:=by omega
     have hd:=hIx X;have h8:=hIx L;clear f hcut y h5 X L;go_wp2_with fail;refine hi.out.mono ?_;rintro e w2 ⟨rfl,nq,rfl⟩;go_wp2_with fail;refine(zdB (bs (Lib.cut x.data.toList [61]).1) (wr.drewN nq) (by rw[zae];have:=hd.out;omega)).mono ?_;rintro e w3 ⟨rfl,F⟩;rw[zah];go_wp2_with fail;refine(zdB (bs (Lib.cut x.data.toList [61]).2.1) w3 (by rw[zae];have:=h8.out;omega)).mono ?_;rintro e P ⟨rfl,V⟩;rw[zah];have m:wr P:=zfi (F.trans (V.mono F.size));have ha:OwnA P (w.heap.size+1) (.slice A (accP ((splL 38 s.data.toList).take k)).length c) (accP ((splL 38 s.data.toList).take k)):=HO.out.below m;have hg:w.heap.size+1<=P.heap.size:=Ql q m.size;have h7:Below (w.heap.size+1) G P:=S.out.trans (m.mono q);clear F V m
     have h4:(accP ((splL 38 s.data.toList).take k)).length<=4194304:=by
      omega
     go_wp2_with (at_builtin;refine zaZ rfl (.tmp 31) (.tmp 37) rfl (w.heap.size+1) (.slice A (accP ((splL 38 s.data.toList).take k)).length c) (accP ((splL 38 s.data.toList).take k)) rfl ha hg _ (argP x.data.toList) rfl P.heap.size rfl 1 rfl h4 ?_;intro v5 w5 h0 hf hp hn);exact⟨⟨k+1,by rw[g.out];omega,rfl,by rw[a.out];exact h0,by rw[a.out,Qa];exact h6.out,h7.trans hf⟩,by dsimp only[intOf];omega⟩
  ·obtain rfl:k=d.length:=by omega
   have d1:decide ((d.length:Int)<(d.length:Int))=false:=by simp
   have HE:Hid (accP ((splL 38 s.data.toList).take d.length)=zcP s.data.toList):=by unfold Hid;rw[<-g.out,zv4];rfl
   clear Z N;go_wp2_with fail;refine Qi (v:=.tuple #[_,jA 0]) (by simp[results,results48,go_sem];rfl) rfl (.inl ⟨by rw[<-HE.out];exact B.out,_,rfl,?_,C.out.trans (S.out.mono (Zc _))⟩);have:=HO.out.low (Zc w.heap.size);rw[HE.out]at this;rw[HE.out];exact this
def topN(b:Int):Nat:=32-(min (max b 0) 32).toNat
def zeM(b:Int):Nat:=4294967296-2 ^ topN b
theorem ziq(b:Int):topN b<=32:=by unfold topN;omega
theorem zwV(s:Nat)(h:s<=32):1<=2 ^ s/\2 ^ s<=4294967296:=⟨Nat.one_le_two_pow,ZX (by decide) h⟩
theorem zkE(b:Int):zeM b<4294967296:=by have:=zwV _ (ziq b);unfold zeM;omega
theorem zlv:∀s,s<=32->∀i,i<32->(4294967296-2 ^ s).testBit i=decide (s<=i):=by
 have h:((List.range 33).all λs=>(List.range 32).all λi=>(4294967296-2 ^ s).testBit i==decide (s<=i))=true:=by decide+kernel
 intro s b i a;have h1:=Zl.1 h s (ZP.2 (by omega));have h2:=Zl.1 h1 i (ZP.2 a);exact Zo.1 h2
theorem zvj(x s:Nat)(d:x<4294967296)(b:s<=32):x&&& (4294967296-2 ^ s)=0↔x<2 ^ s:=by
 constructor
 ·intro h
  refine Nat.lt_pow_two_of_testBit _ λi c=>?_
  by_cases a:i<32
  ·have:=Zi (λy=>Nat.testBit y i) h
   simp only[Nat.testBit_and,Nat.zero_testBit,zlv s b i a,Qu c,Bool.and_true]at this;exact this
  ·exact Nat.testBit_lt_two_pow (Qv d (ZX (n:=2) (by decide) (by omega:32<=i)))
 ·intro h
  refine ZF λi=>?_
  rw[Nat.testBit_and,Nat.zero_testBit]
  by_cases c:i<s
  ·rw[zlv s b i (by omega),Qq (by omega),Bool.and_false]
  ·rw[Nat.testBit_lt_two_pow (Qv h (ZX (by decide) (by omega))),Bool.false_and]
theorem zi1(x s:Nat)(a:s<=32):x&&& (4294967295-(4294967296-2 ^ s))=x % 2 ^ s:=by
 have:=zwV s a;rw[show 4294967295-(4294967296-2 ^ s)=2 ^ s-1 by omega,Nat.and_two_pow_sub_one_eq_mod]
def zmz(a:Nat)(b:Int)(x:Nat):Bool:=decide ((a ^^^ x)<2 ^ topN b)
def octN(a:Nat)(k:Nat):Nat:=a / 2 ^ k % 256
def decS(n:Nat):jE:=Lib.decDigits n
def zf0(a:Nat):jE:=Lib.join [decS (octN a 24),decS (octN a 16),decS (octN a 8),decS (octN a 0)] [46]
def netT(a:Nat)(b:Int):jE:=if b<32 then zf0 a++47::decS b.toNat else zf0 a
def zqu(a:Nat)(b:Int):Bool:=decide (0<=b)&&decide (b<=32)&&(a % 2 ^ topN b==0)
def zgm:List jE->Nat->Option Nat
 | [],a=>some a
 |x::r,a=>if numB 255 x<0 then none else zgm r ((a*256+(numB 255 x).toNat) % 4294967296)
def zmO(l:jE):Int:=if (Lib.cut l [47]).2.2=true then numB 32 (Lib.cut l [47]).2.1 else 32
def netP(l:jE):Except Int (Nat × Int):=
 if zmO l<0 then .error 3 else if (splL 46 (Lib.cut l [47]).1).length≠4 then .error 3
 else match zgm (splL 46 (Lib.cut l [47]).1) 0 with
 |none=>.error 3
 |some a=>if a % 2 ^ topN (zmO l)≠0 then .error 4 else .ok (a,zmO l)
theorem zkA{l:jE}{e:Int}(h:netP l=.error e):e=3\/e=4:=by
 unfold netP at h
 split at h
 ·cases h;exact .inl rfl
 ·split at h
  ·cases h;exact .inl rfl
  ·split at h
   ·cases h;exact .inl rfl
   ·split at h
    ·cases h;exact .inr rfl
    ·cases h
theorem zfY(b:UInt8)(a:0<=zaq b)(h1:zaq b<10):UInt8.ofNat (48+(zaq b).toNat)=b:=by
 have:=zcq (p:=λb=>!(decide (0<=zaq b)&&decide (zaq b<10))||decide (UInt8.ofNat (48+(zaq b).toNat)=b)) (by decide+kernel) b;simp only[Qu a,Qu h1,Bool.and_self,Bool.not_true,Bool.false_or]at this;exact Zr this
theorem zo7:∀(l:jE) (a:Nat) (n:Int),1<=a->zbr 10 l (a:Int)=some n->Lib.decDigits n.toNat=Lib.decDigits a++l
 | [],a,n,_,h=>by
  unfold zbr at h;have e:(a:Int)=n:=QD h;rw[<-e,Q8,QE]
 |b::l,a,n,i,h=>by
  unfold zbr at h
  split at h
  ·cases h
  ·rename_i g
   obtain⟨d,c⟩:∃d:Nat,zaq b=(d:Int):=⟨(zaq b).toNat,by omega⟩
   have f:d<10:=by omega
   have e:(a:Int)*10+zaq b=((a*10+d:Nat):Int):=by rw[c];omega
   rw[e]at h;have ih:=zo7 l (a*10+d) n (by omega) h;rw[ih,Lib.decDigits,dif_neg (by omega),show (a*10+d) / 10=a by omega,show (a*10+d) % 10=d by omega,QG]
   congr 1
   have hb:=zfY b (by omega) (by omega);rw[c,Q8]at hb;rw[hb]
   rfl
theorem zqC{most:Int}{l:jE}(h:0<=numB most l):decS (numB most l).toNat=l/\numB most l<=most:=by
 unfold numB at h ⊢;cases f:numL 10 9 l with
 |none=>rw[f]at h;dsimp only at h;omega
 |some n=>
  rw[f]at h;dsimp only at h ⊢
  split at h
  ·exact absurd h (by decide)
  ·rename_i j
   rw[Qe j];refine⟨?_,by omega⟩;unfold numL at f
   split at f
   ·cases f
   ·rename_i g
    match l,f,g,j with
    | [],_,g,_=>exact(g (.inl rfl)).elim
    | [b],f,_,_=>
     unfold zbr at f
     split at f
     ·cases f
     ·rename_i k
      unfold zbr at f;have e:=QD f;have m:n=zaq b:=by omega
      unfold decS;rw[m,Lib.decDigits,dif_pos (by omega),zfY b (by omega) (by omega)]
    |b::c::r,f,_,j=>
     have hb:b≠48:=λe=>j (.inr ⟨by rw[e];rfl,by simp⟩)
     unfold zbr at f
     split at f
     ·cases f
     ·rename_i k
      obtain⟨d,i⟩:∃d:Nat,zaq b=(d:Int):=⟨(zaq b).toNat,by omega⟩
      have a:=zfY b (by omega) (by omega)
      have o:d≠0:=λe=>by
       rw[i,e]at a;exact hb a.symm
      rw[show (0:Int)*10+zaq b=(d:Int)by omega]at f;have:=zo7 (c::r) d n (by omega) f;unfold decS;rw[this,Lib.decDigits,dif_pos (by omega)];rw[i,Q8]at a;rw[a]
      rfl
theorem zrM(a b c d:jE):Lib.join [a,b,c,d] [46]=a++46::(b++46::(c++46::d)):=by
 rw[Lib.join_cons];simp[Lib.joinTail]
theorem zrl(a k:Nat):octN a k<256:=XJ _ (by decide)
theorem zpv:∀(l:List jE) (a n:Nat),a<4294967296->zgm l a=some n->n<4294967296
 | [],a,n,b,h=>by unfold zgm at h;cases h;exact b
 |x::r,a,n,_,h=>by
  unfold zgm at h
  split at h
  ·cases h
  ·exact zpv r _ n (XJ _ (by decide)) h
theorem zvk{x:jE}(h:¬numB 255 x<0):∃k:Nat,numB 255 x=(k:Int)/\k<256/\decS k=x:=by
 obtain⟨h1,h2⟩:=zqC (most:=255) (l:=x) (by omega);exact⟨(numB 255 x).toNat,by omega,by omega,h1⟩
theorem zkM(s:ByteArray)(most:Int)(w:World)(p:s.size<=maxLen):
 Calls prog 147 #[.string s,jA most] w λe w'=>e=jC (jA (numB most s.data.toList))/\w'=w:=by
 have f:=zf6 s w p;cases c:numL 10 9 s.data.toList with
 |none=>
  rw[c]at f;have b:Hid (numB most s.data.toList=-1):=by unfold Hid numB;rw[c]
  have i:=hIx f;clear c f
  go_in
  go_wp2_with fail;refine i.out.mono ?_;rintro e j ⟨rfl,rfl⟩;dsimp only[zcb];go_wp2;go_ret;exact⟨zac b.out.symm,rfl⟩
 |some n=>
  rw[c]at f;have d:s.data.toList.length=s.size:=by simp
  have g:0<s.size:=by
   unfold numL at c
   split at c
   ·cases c
   ·omega
  have k:s.data.toList.head? = some s[0]:=by
   have:=zaH s 0 g;rw[List.drop_zero]at this;rw[this];rfl
  have b:Hid (numB most s.data.toList=if most<n\/(s[0].toNat=48/\1<s.size)then -1 else n):=by
   unfold Hid numB;rw[c];dsimp only
   have:(s.data.toList.head? = some 48)↔s[0].toNat=48:=by
    rw[k]
    constructor
    ·intro h;have:=QD h;rw[this];rfl
    ·intro h;congr 1;exact Zs.1 h
   simp only[this,d]
  have i:=hIx f;clear c f k d
  by_cases c1:most<n
  ·have o:decide (most<n)=true:=Qu c1
   have a:Hid (numB most s.data.toList=-1):=by unfold Hid;rw[b.out,Qg (.inl c1)]
   clear b c1
   go_in
   go_wp2_with fail;refine i.out.mono ?_;rintro e j ⟨rfl,rfl⟩;dsimp only[zcb];go_wp2;go_ret;exact⟨zac a.out.symm,rfl⟩
  ·have o:decide (most<n)=false:=Qq c1
   by_cases c2:s[0].toNat=48
   ·have l:((s[0].toNat:Int)==48)=true:=by rw[c2];rfl
    by_cases c3:1<s.size
    have m:decide ((1:Int)<(s.size:Int))=true:=Qu (by omega);have a:Hid (numB most s.data.toList=-1):=by unfold Hid;rw[b.out,Qg (.inr ⟨c2,c3⟩)]
    rotate_left
    have m:decide ((1:Int)<(s.size:Int))=false:=Qq (by omega);have a:Hid (numB most s.data.toList=n):=by unfold Hid;rw[b.out,Qe (λh=>h.elim c1 (λh=>c3 h.2))]
    all_goals
     clear b c1 c2 c3
     go_in
     go_wp2_with fail;refine i.out.mono ?_;rintro e j ⟨rfl,rfl⟩;dsimp only[zcb];go_wp2;go_ret;exact⟨zac a.out.symm,rfl⟩
   ·have l:((s[0].toNat:Int)==48)=false:=by rw[Qb];omega
    have a:Hid (numB most s.data.toList=n):=by unfold Hid;rw[b.out,Qe (λh=>h.elim c1 (λh=>c2 h.1))]
    clear b c1 c2
    go_in
    go_wp2_with fail;refine i.out.mono ?_;rintro e j ⟨rfl,rfl⟩;dsimp only[zcb];go_wp2;go_ret;exact⟨zac a.out.symm,rfl⟩
theorem zwe:∀k:Nat,k<=32->IntKind.u32.wrap (IntKind.u64.wrap (4294967295*2 ^ (32-k)))=((4294967296-2 ^ (32-k):Nat):Int):=by
 have h:((List.range 33).all λk=>IntKind.u32.wrap (IntKind.u64.wrap (4294967295*2 ^ (32-k)))==((4294967296-2 ^ (32-k):Nat):Int))=true:=by decide+kernel
 intro k a;exact Zo.1 (Zl.1 h k (ZP.2 (by omega)))
theorem zdz(b:Int)(w:World):Calls prog 185 #[jA b] w λe w'=>e=jC (.int .u32 (zeM b:Nat))/\w'=w:=by
 obtain⟨k,c⟩:∃k:Nat,min (max b 0) 32=(k:Int):=⟨(min (max b 0) 32).toNat,by omega⟩
 have a:k<=32:=by omega
 have d:Hid (((zeM b:Nat):Int)=IntKind.u32.wrap (IntKind.u64.wrap (4294967295*2 ^ (32-k)))):=by
  unfold Hid;rw[zwe k a];unfold zeM topN;rw[c]
  rfl
 have f:IntKind.i64.wrap (32-(k:Int))=32-(k:Int):=Qx _ (by omega);have i:(32-(k:Int)).toNat=32-k:=by omega
 have g:(0:Int)<=32-(k:Int):=by omega
 have h:32-(k:Int)<=64:=by omega
 go_in
 go_wp2;go_ret;exact⟨zac (by rw[d.out];exact(IntKind.wrap_u32' _).symm),rfl⟩
def netV:Except Int (Nat × Int)->Value
 |.error x=>.tuple #[.agg #[.int .u32 0,jA 0],jA x]
 |.ok (a,b)=>.tuple #[.agg #[.int .u32 (a:Int),jA b],jA 0]
def zes(l:jE)(w:World)(e:Ending)(w':World):Prop:=e=jC (netV (netP l))/\w w'
def NetAt(R:Nat)(a b:Int)(w:World):Prop:=w.heap[R]? = some (.cells #[.int .u32 a,jA b] 248 (0,0))
theorem NetAt.cells{R:Nat}{a b:Int}{w:World}(h:NetAt R a b w):w.cell? R=some (.int .u32 a)/\w.cell? ⟨R,1,none⟩=some (jA b):=
 ⟨Qf w _ 0 _ _ _ h,Qf w _ 1 _ _ _ h⟩
theorem NetAt.free{R:Nat}{a b:Int}{w:World}(h:NetAt R a b w)(j:Nat):w.frozen? ⟨R,j,none⟩=false:=by
 unfold NetAt at h;simp[World.frozen?, h]
theorem NetAt.below{R B:Nat}{a b:Int}{w w':World}(h:NetAt R a b w)(hb:Below B w w')(c:R<B):NetAt R a b w':=(hb.block R c).trans h
theorem NetAt.put{R:Nat}{a b:Int}{w:World}(h:NetAt R a b w)(x:Int):NetAt R x b (w.setCell R (.int .u32 x)):=by
 unfold NetAt at h ⊢;simp[World.setCell,Q4,h]
def RowsT(w:World)(g:Nat)(a:List ByteArray):Prop:=w.heap[g]? = some (.cells (a.map Value.string).toArray 9 (0,0))
theorem RowsT.cell{w:World}{g:Nat}{a:List ByteArray}(h:RowsT w g a)(j:Nat)(b:j<a.length):w.cell? ⟨g,j,none⟩=some (.string a[j]):=by
 have:=Qf w g j _ _ (0,0) h;rw[this];simp[b]
theorem RowsT.below{B:Nat}{w w':World}{g:Nat}{a:List ByteArray}(h:RowsT w g a)(hb:Below B w w')(b:g<B):RowsT w' g a:=(hb.block g b).trans h
def NRel(d:List jE)(b:Int)(c:World)(i:Value)(wr:World):Prop:=
 ∃(k a:Nat),k<=d.length/\i=jA k/\a<4294967296/\Hid (zgm d 0=zgm (d.drop k) a)/\NetAt c.heap.size (a:Int) b wr/\c wr
theorem zx5(a n:Nat)(b:n<256):bits .or .u32 (IntKind.u32.wrap ((a:Int)*256)) (n:Int)=(((a*256+n) % 4294967296:Nat):Int):=by
 have e:IntKind.u32.wrap ((a:Int)*256)=((a*256 % 4294967296:Nat):Int):=by rw[IntKind.wrap_u32'];omega
 rw[e,u32_or_nat _ _ (XJ _ (by decide)) (by omega),nat_join 8 _ _ (by simp only[Nat.reducePow];omega) (by simp only[Nat.reducePow];omega)];omega
theorem zjs(s:ByteArray)(w:World)(X:LibOk w)(hs:s.size<=4194304):
 Calls prog 146 #[.string s] w (zes s.data.toList w):=by
 have hh:s.data.toList.length=s.size:=by simp
 obtain⟨A,I⟩:∃A,w.alloc (.cells #[.int .u32 0,jA 0] 248)=A:=⟨_,rfl⟩
 have ht:NetAt w.heap.size 0 0 A:=by rw[<-I];exact Qt w _
 have h4:w A:=by rw[<-I];exact WaL
 have hO:w.heap.size<A.heap.size:=by rw[<-I];simp
 have hN:=X.below h4
 have y:Hid (∀x W,netP s.data.toList=.error x->w W->zes s.data.toList w (jC (.tuple #[.agg #[.int .u32 0,jA 0],jA x])) ((W.setCell w.heap.size (.int .u32 0)).setCell ⟨w.heap.size,1,none⟩ (jA 0))):=λx W h hb=>
  ⟨by rw[h];rfl,(hb.setCell (p:=⟨w.heap.size,0,none⟩) (Qc _) _).setCell (p:=⟨w.heap.size,1,none⟩) (Qc _) _⟩
 have hS:=hIx I;obtain⟨m0,h3⟩:=hN;have hcut:=strings_Cut s ⟨#[47]⟩ m0 A (by omega) h3;have hL:=zcM s.data.toList [47];have K:Hid (zmO s.data.toList=if (Lib.cut s.data.toList [47]).2.2=true then numB 32 (Lib.cut s.data.toList [47]).2.1 else 32):=rfl
 have G:Hid (netP s.data.toList=if zmO s.data.toList<0 then .error 3 else if (splL 46 (Lib.cut s.data.toList [47]).1).length≠4 then .error 3
  else match zgm (splL 46 (Lib.cut s.data.toList [47]).1) 0 with
  |none=>.error 3
  |some a=>if a % 2 ^ topN (zmO s.data.toList)≠0 then .error 4 else .ok (a,zmO s.data.toList)):=rfl
 rw[show (ByteArray.mk #[47]).data.toList=[47]from rfl]at hcut;generalize zmO s.data.toList=g at *;generalize Lib.cut s.data.toList [47]=q at *;obtain⟨r,cb,cc⟩:=q;dsimp only at hcut hL K G;have Z:=hIx hcut;have hD:(bs cb).size<=maxLen:=by rw[zae];unfold maxLen;omega
 have hv:Hid (∀W,Calls prog 147 #[.string (ByteArray.mk cb.toArray),jA 32] W λe w'=>e=jC (jA (numB 32 cb))/\w'=W):=λW=>by
  have:=zkM (bs cb) 32 W hD;rw[zah]at this;exact this
 have hu:=hIx h3;clear X I h3 hcut hD;have ha:Hid (NetAt w.heap.size 0 0 A):=ht;have hq:=hIx h4;have g0:∀n,A.heap=(A.drewN n).heap:=λ_=>rfl
 clear ht h4 hh
 go_in
 go_upto_region 1 with fail
 rw[hS.out]
 go_upto_if 19 with (go_at_call 78;refine Z.out.mono ?_;rintro e w1 ⟨rfl,nq,rfl⟩)
 have J:Hid (NetAt w.heap.size 0 0 (A.drewN nq)):=ha.out;have h6:Hid (w (A.drewN nq)):=below_drewN hq.out nq;have hK:Hid ((A.drewN nq).cell? (0:)=some (jA m0)):=hu.out;have h8:w.heap.size<(A.drewN nq).heap.size:=hO;generalize A.drewN nq=L at *
 go_cut [6,7,13,15,18,19]from 20 to 24 (λ_ s7 _ _ _ _ wx=>s7=jA g/\0<=g/\wx=L)
 case first=>
  cases hE:cc with
  |true=>
   rw[hE]at K;have j:Hid (g=numB 32 cb):=K.out
   by_cases b:g<0
   ·have V:=hIx (y.out 3 L (by rw[G.out,Qg b]) h6.out)
    have d0:decide (numB 32 cb<0)=true:=Qu (by rw[<-j.out];exact b);have U:=J.out;have ⟨r0,r1⟩:=U.cells;have f0:=U.free 0;have f1:=U.free 1;clear b U;go_wp2_with (go_at_call 147;refine(hv.out _).mono ?_;rintro e w2 ⟨rfl,f⟩;rw[f]);have t:=za8 (.int .u32 0) (jA 0) r0 r1;exact Qi (v:=.tuple #[.agg #[.int .u32 0,jA 0],jA 3]) (by simp[results,results146,go_sem,t.1,t.2]) rfl V.out
   ·have d0:decide (numB 32 cb<0)=false:=Qq (by rw[<-j.out];exact b)
    have D:0<=g:=by omega
    have hC:=hIx D;clear b D;go_wp2_with (go_at_call 147;refine(hv.out _).mono ?_;rintro e w2 ⟨rfl,f⟩;rw[f]);go_meet;exact⟨by rw[j.out],hC.out,rfl⟩
  |false=>
   rw[hE]at K;have j:Hid (g=32):=K.out;go_wp2;go_meet;exact⟨by rw[j.out],by rw[j.out];decide,rfl⟩
 case rest=>
  obtain⟨rfl,D,hw⟩:=hcut;rw[hw];clear hw;have hW:s.data.toList.length=s.size:=by simp
  have C:=strings_Split (bs r) ⟨#[46]⟩ m0 L (by rw[zae];omega) hK.out (by decide);have H:=zbZ 46 (bs r);have P:=Xh ⟨#[46]⟩ (by decide) 0 _ (bs r) rfl;rw[zah]at H;have hI:=zdK 46 r;have hh:s.data.toList.length=s.size:=by simp
  generalize Lib.splitB ⟨#[46]⟩ 0 (Lib.countB (bs r) ⟨#[46]⟩) (bs r)=m at C H P;generalize Lib.countB (bs r) ⟨#[46]⟩=nc at C P;rw[<-P]at C;have Y:(splL 46 r).length=m.length:=by rw[<-H,Qh]
  have g1:m.length<=4194305:=by omega
  have hX:r.length<=s.size:=by omega
  obtain⟨u,E⟩:∃u,L.alloc (.cells (m.map Value.string).toArray 9)=u:=⟨_,rfl⟩
  have h0:RowsT u L.heap.size m:=by rw[<-E];exact Qt L _
  have h9:L u:=by rw[<-E];exact WaL
  have hG:L.heap.size<u.heap.size:=by rw[<-E];simp
  rw[E]at C;have hf:=hIx C;have hy:Hid (w u):=h6.out.trans (h9.mono (QX h8));have hg:Hid (NetAt w.heap.size 0 0 u):=NetAt.below J.out h9 h8;have hr:=hIx h0;have hP:=hIx H;have d:=hIx Y;have hi:w.heap.size<u.heap.size:=ZC h8 hG;clear C H P hI Y E h0 h9 hK hu Z ha hq J h6 hL
  by_cases c4:m.length=4
  rotate_left
  ·have V:=hIx (y.out 3 u (by rw[G.out,Qe (by omega),Qg (by rw[d.out];exact c4)]) hy.out)
   have d4:((m.length:Int) != 4)=true:=by simp;omega
   have U:=hg.out;have ⟨r0,r1⟩:=U.cells;have f0:=U.free 0;have f1:=U.free 1;clear c4 U D;go_wp2_with (go_at_call 77;refine hf.out.mono ?_;rintro e w2 ⟨rfl,f⟩;rw[f]);have t:=za8 (.int .u32 0) (jA 0) r0 r1;exact Qi (v:=.tuple #[.agg #[.int .u32 0,jA 0],jA 3]) (by simp[results,results146,go_sem,t.1,t.2]) rfl V.out
  ·have d4:((m.length:Int) != 4)=false:=by simp;omega
   have F:Hid (netP s.data.toList=match zgm (splL 46 r) 0 with|none=>.error 3|some a=>if a % 2 ^ topN g≠0 then .error 4 else .ok (a,g)):=by
    unfold Hid;rw[G.out,Qe (by omega),Qe (by rw[d.out];omega)]
   obtain⟨W5,S⟩:∃W5,u.alloc (.cells #[.int .u32 0,jA g] 248)=W5:=⟨_,rfl⟩
   have hp:NetAt u.heap.size 0 g W5:=by rw[<-S];exact Qt u _
   have hF:u W5:=by rw[<-S];exact WaL
   have hQ:=hIx S;have hC:=hIx D;clear G c4 S D;go_wp2_with (go_at_call 77;refine hf.out.mono ?_;rintro e w2 ⟨rfl,f⟩;rw[f]);rw[hQ.out];clear f w2
   go_loopw [35] (λi wr=>NRel (splL 46 r) g u i wr) (λi _=>m.length-(intOf i).toNat)
   case atStart=>exact⟨0,0,Qm _,rfl,by decide,rfl,hp,hF⟩
   case round=>
    obtain⟨k,c,hk,rfl,hj,B,hA,hB⟩:=hrel;clear hp hF;rw[d.out]at hk;have o:NetAt w.heap.size 0 0 wr:=hg.out.below hB hi;have h5:w wr:=hy.out.trans (hB.mono (QX hi));have Q:RowsT wr L.heap.size m:=hr.out.below hB hG
    by_cases N:k<m.length
    ·have d2:decide ((k:Int)<(m.length:Int))=true:=by simp;omega
     have i7:IntKind.i64.wrap ((k:Int)+1)=(k:Int)+1:=Qx _ (by omega);have hc:=Q.cell k N
     have hx:(splL 46 r)[k]'(by rw[d.out];exact N)=m[k].data.toList:=by
      have:=hP.out;simp only[<-this,Zm]
     have hR:m[k].size<=s.size:=by
      have h1:=zbV 46 r _ (Qz (by rw[d.out];exact N));rw[hx]at h1;have h2:m[k].size<=r.length:=by simpa using h1
      omega
     have h7:Hid ((splL 46 r).drop k=m[k].data.toList::(splL 46 r).drop (k+1)):=by
      unfold Hid;rw[Zb (by rw[d.out];exact N),hx]
     clear hx;generalize m[k]=x at hc h7 hR;have HN:Hid (∀W,Calls prog 147 #[.string x,jA 255] W λe w'=>e=jC (jA (numB 255 x.data.toList))/\w'=W):=λW=>zkM x 255 W (by unfold maxLen;omega)
     have l:Hid (zgm (splL 46 r) 0=if numB 255 x.data.toList<0 then none else zgm ((splL 46 r).drop (k+1)) ((c*256+(numB 255 x.data.toList).toNat) % 4294967296)):=by
      unfold Hid;rw[B.out,h7.out,zgm]
     clear B h7
     by_cases b:numB 255 x.data.toList<0
     ·have V:=hIx (y.out 3 wr (by rw[F.out,l.out,Qg b]) h5)
      have d3:decide (numB 255 x.data.toList<0)=true:=Qu b;have ⟨r0,r1⟩:=o.cells;have f0:=o.free 0;have f1:=o.free 1;clear b o hA Q;go_wp2_with (go_at_call 147;refine(HN.out _).mono ?_;rintro e w2 ⟨rfl,f⟩;rw[f]);have t:=za8 (.int .u32 0) (jA 0) r0 r1;exact Qi (v:=.tuple #[.agg #[.int .u32 0,jA 0],jA 3]) (by simp[results,results146,go_sem,t.1,t.2]) rfl V.out
     ·obtain⟨n,hd,hU,_⟩:=zvk b
      rw[Qe b,hd,Q8]at l;rw[hd]at HN b;have d3:decide ((n:Int)<0)=false:=Qq b;have ow:=zx5 c n hU;rw[IntKind.wrap_u32']at ow;have cw:IntKind.u32.wrap (n:Int)=(n:Int):=by rw[IntKind.wrap_u32'];omega
      have hn:=hA.put (((c*256+n) % 4294967296:Nat):Int);have hm:u (wr.setCell u.heap.size (.int .u32 (((c*256+n) % 4294967296:Nat):Int))):=hB.setCell (p:=⟨u.heap.size,0,none⟩) (Qc _) _;have ho:=hIx hn;have hJ:=hIx hm;have ⟨r0,r1⟩:=hA.cells;have f0:=hA.free 0;clear b hn hm hA Q o;go_wp2_with (go_at_call 147;refine(HN.out _).mono ?_;rintro e w2 ⟨rfl,f⟩;rw[f]);exact⟨⟨k+1,(c*256+n) % 4294967296,by rw[d.out];omega,rfl,XJ _ (by decide),l.out,ho.out,hJ.out⟩,by simp only[intOf];omega⟩
    ·have he:k=m.length:=by omega
     have l:Hid (zgm (splL 46 r) 0=some c):=by
      unfold Hid;rw[B.out,he,<-d.out,List.drop_length]
      rfl
     have hZ:m.length<=k:=by omega
     have d2:decide ((k:Int)<(m.length:Int))=false:=Qq (by omega);have ⟨r0,r1⟩:=hA.cells;have ⟨q0,q1⟩:=o.cells;have f0:=o.free 0;have f1:=o.free 1;have hH:Hid (topN g<=32):=ziq g
     have O:Hid (bits .andNot .u32 (c:Int) (zeM g:Nat)=((c % 2 ^ topN g:Nat):Int)):=by
      unfold Hid;rw[u32_andNot_nat c (zeM g) hj (zkE g)];unfold zeM;rw[zi1 _ _ (ziq g)]
     clear B he hA o Q hH;have hY:=O.out
     have T:Hid (netP s.data.toList=if c % 2 ^ topN g≠0 then .error 4 else .ok (c,g)):=by
      unfold Hid;rw[F.out,l.out]
     have hV:=O.out;clear F l;generalize c % 2 ^ topN g=z at *
     by_cases hz:z=0
     ·have e1:((z:Int) != 0)=false:=by simp[hz]
      have V:Hid (netP s.data.toList=.ok (c,g)):=by unfold Hid;rw[T.out,Qe (λh=>h hz)]
      have hT:Hid (∀n,w (((wr.drewN n).setCell w.heap.size (.int .u32 (c:Int))).setCell ⟨w.heap.size,1,none⟩ (jA g))):=λn=>((below_drewN h5 n).setCell (p:=⟨w.heap.size,0,none⟩) (Qc _) _).setCell (p:=⟨w.heap.size,1,none⟩) (Qc _) _
      clear hz O T;go_upto_region 19 with fail
      go_quiet ((go_at_call 185;exact Q9 (zdz _ _)))
      go_wp2_with fail;have t:=za8 (w:=wr.drewN nq) (.int .u32 (c:Int)) (jA g) q0 q1;exact Qi (v:=.tuple #[.agg #[.int .u32 (c:Int),jA g],jA 0]) (by simp[results,results146,go_sem,t.1,t.2]) rfl ⟨by rw[V.out];rfl,hT.out nq⟩
     ·have e1:((z:Int) != 0)=true:=by simp;omega
      have V:=hIx (λn=>y.out 4 (wr.drewN n) (by rw[T.out,Qg hz]) (below_drewN h5 n));clear hz O T;go_upto_region 19 with fail
      go_quiet ((go_at_call 185;exact Q9 (zdz _ _)))
      go_wp2_with fail;have t:=za8 (w:=wr.drewN nq) (.int .u32 0) (jA 0) q0 q1;exact Qi (v:=.tuple #[.agg #[.int .u32 0,jA 0],jA 4]) (by simp[results,results146,go_sem,t.1,t.2]) rfl (V.out nq)
