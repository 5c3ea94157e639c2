/- Lemmas for the last texts. -/
import Derived.Test.YtnnokglddolglaaGreatDoorM07
import Derived.Deep.CutRange
import Derived.Deep.RegionWith
set_option maxHeartbeats 1600000
set_option maxRecDepth 100000
namespace Go.Proofs.YtnnokglddolglaaGreatDoor
open Go.RowKit Go.Proofs.Tryz
def zAd(a:Nat)(w:World)(b:Value)(wr:World):Prop:=
 b=.int .i64 a/\FourW wr (w.heap.size+1) (setF λ_=>false)/\FourW wr w.heap.size (setF λ_=>false)/\Below w.heap.size w wr
theorem ztQ(f i:Nat)(h1:i<f)(w:World):
 Calls prog 148 #[.int .i64 f,.int .i64 i] w (zb3 (setF λ_=>false) w):=by
 have l:∀W,W=(w.alloc (.cells #[.int .u64 0,.int .u64 0,.int .u64 0,.int .u64 0] 182)).alloc (.cells #[.int .u64 0,.int .u64 0,.int .u64 0,.int .u64 0] 182)->FourW W (w.heap.size+1) (setF λ_=>false)/\FourW W w.heap.size (setF λ_=>false)/\Below w.heap.size w W:=λW g=>by
  have hb:Below w.heap.size w W:=by rw[g];exact WaL.alloc (by simp) _
  refine⟨?_,?_,hb⟩
  ·have:=FourW.new (w.alloc (.cells #[.int .u64 0,.int .u64 0,.int .u64 0,.int .u64 0] 182))
   rw[Qr]at this;rw[g];exact this
  ·rw[g]
   exact(Qt _ _ _ (by simp)).trans (FourW.new w)
 have n:=hIx l;clear l
 go_in
 go_wp2
 go_loopw [6] (λb wr=>zAd f w b wr) (λb _=>256-(intOf b).toNat)
 case atStart=>exact⟨rfl,n.out _ rfl⟩
 case round=>
  obtain⟨rfl,m,e,hb⟩:=hrel;have A:decide ((f:Int)<=(i:Int))=false:=by simp;omega
  obtain⟨S,k⟩:∃S,S=setF λ_=>false:=⟨_,rfl⟩
  rw[<-k]at m e;have s:=hIx k;clear k;have ⟨c0,c1,c2,c3⟩:=m.cells;have ⟨D,z,x,C⟩:=e.cells;have E:=e.free 0;have u:=e.free 1;have F:=e.free 2;have y:=e.free 3;go_wp2_with fail;have j:=e.fill S;have h:=(((hb.setCell (p:=⟨w.heap.size,0,none⟩) (Qd _) (.int .u64 S.a)).setCell (p:=⟨w.heap.size,1,none⟩) (Qd _) (.int .u64 S.b)).setCell (p:=⟨w.heap.size,2,none⟩) (Qd _) (.int .u64 S.c)).setCell (p:=⟨w.heap.size,3,none⟩) (Qd _) (.int .u64 S.d);generalize ((((wr.setCell ⟨w.heap.size,0,none⟩ (.int .u64 S.a)).setCell ⟨w.heap.size,1,none⟩ (.int .u64 S.b)).setCell ⟨w.heap.size,2,none⟩ (.int .u64 S.c)).setCell ⟨w.heap.size,3,none⟩ (.int .u64 S.d))=B at *;obtain⟨q,r,o,t⟩:=j.cells;exact Qj (v:=setA S) (by simp[results,results148,go_sem,q,r,o,t,setA]) rfl ⟨by rw[s.out],h⟩
theorem zfw(b a:Nat)(h2:a<256)(w:World):
 Calls prog 148 #[.int .i64 b,.int .i64 a] w (zb3 (setF (rgF b a)) w):=by
 rcases ZN a b with h|h
 ·have e:setF (rgF b a)=setF λ_=>false:=zb0 λx _=>by
   unfold rgF
   by_cases e:b<=x
   ·have:¬x<=a:=by omega
    simp[this]
   ·simp[e]
  rw[e];exact ztQ b a h w
 ·exact zcv b a h h2 w
def za0(s:List UInt8)(r:RS):(Nat->Bool) × RS:=
 match (za8 s r).1 with
 |some f=>(f,(za8 s r).2)
 |none=>
  if (zaH s (zbi s r).2 45).1=true then
   (rgF (zbi s r).1.toNat (zbi s (zaH s (zbi s r).2 45).2).1.toNat,
    if (zbi s (zaH s (zbi s r).2 45).2).1<(zbi s r).1/\(zbi s (zaH s (zbi s r).2 45).2).2.e=0 then zaA {(zbi s (zaH s (zbi s r).2 45).2).2 with pos:=(zaH s (zbi s r).2 45).2.pos} 3
    else (zbi s (zaH s (zbi s r).2 45).2).2)
  else (rgF (zbi s r).1.toNat (zbi s r).1.toNat,(zaH s (zbi s r).2 45).2)
theorem zcP{s:List UInt8}{r:RS}(h:r.pos<=s.length):Step s r (za0 s r).2/\(r.pos<(za0 s r).2.pos\/(za0 s r).2.e≠0):=by
 obtain⟨p,v,t⟩:=zdw h;obtain⟨c1,c2,_⟩:=zcw h;obtain⟨a,m⟩:=zcV c1.inn (b:=45) (by decide);obtain⟨i,u,_⟩:=zcw a.inn;unfold za0;cases n:(za8 s r).1 with
 |some f=>exact⟨p,.inl (t f n).1⟩
 |none=>
  dsimp only;generalize zbi s r=C at *;generalize zaH s C.2 45=T at *;generalize zbi s T.2=D at *;have d:=c1.trans a;have x:=c1.le;have y:=a.le;have w:=i.le
  by_cases g:T.1=true
  ·rw[Qi g]
   have h2:=m g
   by_cases hb:D.1<C.1/\D.2.e=0
   ·rw[Qi hb]
    obtain⟨o,q,l⟩:=zbU {D.2 with pos:=T.2.pos} 3 (by decide);have c:(zaA {D.2 with pos:=T.2.pos} 3).pos=T.2.pos:=o;have j:(zaA {D.2 with pos:=T.2.pos} 3).op=D.2.op:=q;exact⟨⟨by show (zaA {D.2 with pos:=T.2.pos} 3).pos<=_;rw[c];exact a.inn,by show _<=(zaA {D.2 with pos:=T.2.pos} 3).pos;rw[c];exact d.le,by show (zaA {D.2 with pos:=T.2.pos} 3).op=_;rw[j];exact i.op.trans d.op,λ_=>l⟩,.inr l⟩
   ·rw[Qe hb]
    exact⟨d.trans i,.inl (by show r.pos<D.2.pos;have:=h2.1;omega)⟩
  ·rw[Qe g]
   refine⟨d,?_⟩
   rcases c2 with k|k
   ·exact .inl (by show r.pos<T.2.pos;omega)
   ·exact .inr (a.keep k)
def zhe:Nat->List UInt8->RS->Bool->(Nat->Bool)->(Nat->Bool) × RS
 |0,_,r,_,F=>(F,r)
 |f+1,s,r,first,F=>if r.e=0/\(first=true\/zad s r≠93)then zhe f s (za0 s r).2 false (λx=>F x||(za0 s r).1 x)else (F,r)
def zbP(s:List UInt8)(r:RS):Nat:=if r.e=0 then s.length-r.pos+1 else 0
theorem zfD{s:List UInt8}{r:RS}(h:r.pos<=s.length)(b:r.e=0):zbP s (za0 s r).2<zbP s r:=by
 obtain⟨h1,h2⟩:=zcP h;unfold zbP;rw[Qi b];have:=h1.inn
 by_cases a:(za0 s r).2.e=0
 ·rw[Qi a]
  rcases h2 with h2|h2
  ·omega
  ·exact absurd a h2
 ·rw[Qe a];omega
theorem zj8{s:List UInt8}:∀(f g:Nat) (r:RS) (first:Bool) (F:Nat->Bool),r.pos<=s.length->zbP s r<=f->zbP s r<=g->zhe f s r first F=zhe g s r first F
 |0,0,_,_,_,_,_,_=>rfl
 |0,g+1,r,first,F,_,h1,_=>by
  have:r.e≠0:=λe=>by unfold zbP at h1;rw[Qi e]at h1;omega
  rw[zhe,zhe,Qe (λh=>this h.1)]
 |f+1,0,r,first,F,_,_,h2=>by
  have:r.e≠0:=λe=>by unfold zbP at h2;rw[Qi e]at h2;omega
  rw[zhe,zhe,Qe (λh=>this h.1)]
 |f+1,g+1,r,first,F,b,h1,h2=>by
  rw[zhe,zhe]
  by_cases a:r.e=0/\(first=true\/zad s r≠93)
  ·rw[Qi a,Qi a]
   have:=zfD b a.1;exact zj8 f g _ _ _ (zcP b).1.inn (by omega) (by omega)
  ·rw[Qe a,Qe a]
def zeU(s:List UInt8)(r:RS)(first:Bool)(F:Nat->Bool):(Nat->Bool) × RS:=zhe (zbP s r) s r first F
theorem zt7{s:List UInt8}{r:RS}{first:Bool}{F:Nat->Bool}(b:r.pos<=s.length):
 zeU s r first F=if r.e=0/\(first=true\/zad s r≠93)then zeU s (za0 s r).2 false (λx=>F x||(za0 s r).1 x)else (F,r):=by
 unfold zeU
 by_cases a:r.e=0/\(first=true\/zad s r≠93)
 ·rw[Qi a]
  have h1:=zfD b a.1;obtain⟨k,c⟩:∃k,zbP s r=k+1:=⟨zbP s r-1,by omega⟩
  rw[c,zhe,Qi a];exact zj8 _ _ _ _ _ (zcP b).1.inn (by omega) (Qd _)
 ·rw[Qe a]
  cases zbP s r with
  |zero=>rfl
  |succ k=>rw[zhe,Qe a]
theorem ziC{s:List UInt8}:∀(n:Nat) (r:RS) (first:Bool) (F:Nat->Bool),zbP s r<=n->r.pos<=s.length->Step s r (zeU s r first F).2
 |n,r,first,F,b,a=>by
  rw[zt7 a]
  by_cases c:r.e=0/\(first=true\/zad s r≠93)
  ·rw[Qi c]
   have h1:=zfD a c.1
   match n,b with
   |0,b=>exact absurd b (by omega)
   |n+1,b=>exact(zcP a).1.trans (ziC n _ _ _ (by omega) (zcP a).1.inn)
  ·rw[Qe c];exact Step.refl a
def zhu(s:List UInt8)(r:RS):Nat->Bool:=λx=>if (zaH s r 94).1=true then !(zeU s (zaH s r 94).2 true λ_=>false).1 x else (zeU s (zaH s r 94).2 true λ_=>false).1 x
def zkw(s:List UInt8)(r:RS):RS:=if setF (zhu s r)=.zero then zaA (zeU s (zaH s r 94).2 true λ_=>false).2 3 else (zeU s (zaH s r 94).2 true λ_=>false).2
def zeZ(s:List UInt8)(r:RS):(Nat->Bool) × RS:=(zhu s r,(zaH s (zkw s r) 93).2)
theorem zrq{s:List UInt8}{r:RS}(h:r.pos<=s.length):Step s r (zeZ s r).2:=by
 have h1:=(zcV h (b:=94) (by decide)).1;have h2:=h1.trans (ziC _ (zaH s r 94).2 true (λ_=>false) (Qd _) h1.inn)
 have a:Step s r (zkw s r):=by
  unfold zkw
  by_cases c:setF (zhu s r)=.zero
  ·rw[Qi c];exact h2.trans (zdy h2.inn 3 (by decide))
  ·rw[Qe c];exact h2
 exact a.trans (zcV a.inn (by decide)).1
section
open Go.ChangeShapes Go.WideShapes Go.Deep
theorem zgB{w w':World}{g b a:Nat}(d:w.grownBy w' (some g))(hb:b<w.heap.size)(c:b≠g):w'.cell? ⟨b,a,none⟩=w.cell? ⟨b,a,none⟩:=by
 have:=d.block b hb (λe=>c (QD e));simp only[World.cell?, this]
end
theorem zbI:Set4.zero.Wf:=⟨⟨by decide,by decide⟩,⟨by decide,by decide⟩,⟨by decide,by decide⟩,⟨by decide,by decide⟩⟩
def zAo(t:Tree)(w:World)(e:Ending)(w':World):Prop:=
 ∃A c,e=.returned (argX t A c)/\LT w' w'.heap.size t (zap t.kind t.set A t.kids.length c)/\Below w.heap.size w w'
theorem zpZ(k:Int)(w:World):Calls prog 287 #[.int .i64 k] w (zAo (.node k .zero []) w):=by
 have a:Hid (∀o,Below w.heap.size w (w.alloc o)):=λo=>(Qg _ _).alloc (Qd _) o
 go_in
 go_wp2_with fail;refine Qj (v:=argX (.node k .zero []) none 0) (by simp[results,results287,go_sem,argX,Tree.kind,Tree.set,Tree.kids,Set4.zero]) rfl ⟨none,0,rfl,?_,a.out _⟩;rw[LT];exact⟨_,_,rfl,zbI,LK.nil _ _ _⟩
mutual
def zeT:Tree->Int->Int
 |.node _ _ a,n=>zgi a (n+1)
def zgi:List Tree->Int->Int
 | [],n=>n
 |t::a,n=>if 80<n then n else zgi a (zeT t n)
end
mutual
theorem zlG:∀(t:Tree) (n:Int),n<=80->n<zeT t n/\zeT t n<=81
 |.node _ _ a,n,h=>by
  rw[zeT];have:=zpA a (n+1) (by omega);exact⟨by omega,this.2⟩
theorem zpA:∀(a:List Tree) (n:Int),n<=81->n<=zgi a n/\zgi a n<=81
 | [],n,h=>by rw[zgi];exact⟨Zw _,h⟩
 |t::a,n,h=>by
  rw[zgi]
  by_cases h2:80<n
  ·rw[Qi h2];exact⟨Zw _,h⟩
  ·rw[Qe h2]
   have c:=zlG t n (by omega);have b:=zpA a (zeT t n) c.2;exact⟨by omega,b.2⟩
end
mutual
def FewT:Tree->Prop
 |.node _ _ a=>a.length<=2/\FewK a
def FewK:List Tree->Prop
 | []=>True
 |t::a=>FewT t/\FewK a
end
theorem FewK.at:∀{b:List Tree},FewK b->∀(i:Nat) (h:i<b.length),FewT b[i]
 | [],_,i,h=>absurd h (by simp)
 |t::b,a,0,_=>by rw[FewK]at a;exact a.1
 |t::b,a,i+1,h=>by rw[FewK]at a;exact FewK.at a.2 i (by simpa using h)
theorem zq9(a:List Tree)(j:Nat)(h:j<a.length)(m:Int):zgi (a.drop j) m=if 80<m then m else zgi (a.drop (j+1)) (zeT a[j] m):=by
 rw[Zf h,zgi]
def zAq(b:List Tree)(n:Int)(w:World)(c a:Value)(wr:World):Prop:=
 ∃(j:Nat) (m:Int),j<=b.length/\c=.int .i64 m/\a=.int .i64 j/\0<=m/\m<=81/\zgi (b.drop j) m=n/\Below w.heap.size w wr
def zx3(t:Tree):Prop:=FewT t->∀(A:Option Addr) (c:Nat) (w:World) (n:Int),LT w w.heap.size t (zap t.kind t.set A t.kids.length c)->0<=n->n<=80->
 Calls prog 258 #[argX t A c,.int .i64 n] w λe w'=>e=.returned (.int .i64 (zeT t n))/\Below w.heap.size w w'
theorem zuL(k:Int)(s:Set4)(a:List Tree)(ih:∀(i:Nat) (h:i<a.length),zx3 a[i]):zx3 (.node k s a):=by
 intro f A c w n hl h4 h0;rw[FewT]at f;have h5:=f.1;have I:=hIx f.2;clear f;have IH:=hIx ih;rw[LT]at hl;obtain⟨U,c',D,_,Q⟩:=hl;have hA:U=A:=by unfold zap at D;simp only[List.cons.injEq,Value.slice.injEq]at D;exact D.2.2.2.2.2.1.1.symm
 subst hA;have S:Hid (zeT (.node k s a) n=zgi a (n+1)):=by unfold Hid;rw[zeT]
 have i0:IntKind.i64.wrap (n+1)=n+1:=Qx _ (by omega);have K:Hid (∀o,Below w.heap.size w (w.alloc o)):=λo=>(Qg _ _).alloc (Qd _) o
 have L:Hid (∀W,Below w.heap.size w W->LK W w.heap.size a U):=λW h=>Q.below h
 generalize X:zgi a (n+1)=N at *;have HN:=hIx X;unfold argX Tree.kind Tree.set Tree.kids;dsimp only;clear ih Q D X
 go_in
 go_wp2
 go_loopw [1,6,12] (λv1 _ x wr=>zAq a N w v1 x wr) (λ_ _ x _=>a.length-(intOf x).toNat)
 case atStart=>exact⟨0,n+1,Qm _,rfl,rfl,by omega,by omega,HN.out,K.out _⟩
 case round=>
  obtain⟨j,m,hj,rfl,rfl,G,h7,hM,hb⟩:=hrel;have y:=hIx hb
  by_cases g:j<a.length
  ·have d1:decide ((j:Int)<(a.length:Int))=true:=Qu (by omega)
   have i7:IntKind.i64.wrap ((j:Int)+1)=(j:Int)+1:=Qx _ (by omega);have C:=hb.size;obtain⟨b,H,h6,rfl,h3,r,l⟩:=(L.out wr hb).at j g;have u:=IH.out j g (I.out.at j g);have q:=hIx (zq9 a j g m);generalize a[j]=E at *;obtain⟨V,c2,z,_⟩:=l.parts;subst z;have ⟨y0,y1,y2,y3,y4,y5⟩:=(show CellsAt wr b (H+j*6) [_,_,_,_,_,_]from r).six
   by_cases d:80<m
   ·have Y:decide (80<m)=true:=Qu d
    have F:Hid (N=m):=by unfold Hid;rw[<-hM,q.out,Qi d]
    have t:Hid (∀o,Below w.heap.size w (wr.alloc o)):=λo=>y.out.alloc C o
    clear hM hb r l d u;go_wp2;exact Qj (v:=.int .i64 m) (by simp[results,results258,go_sem]) rfl ⟨by rw[S.out,F.out],t.out _⟩
   ·have Y:decide (80<m)=false:=Qs d
    have O:=zlG E m (by omega)
    have P:Hid (∀o,Calls prog 258 #[argX E V c2,.int .i64 m] (wr.alloc o) λe w'=>e=.returned (.int .i64 (zeT E m))/\Below (wr.alloc o).heap.size (wr.alloc o) w'):=λo=>
     u V c2 (wr.alloc o) m (l.keep (by simp;omega) (λT oo hp=>((Qg wr.heap.size wr).alloc (Qd _) o).cell (p:=⟨T,oo,none⟩) (by show T<wr.heap.size;omega))) G (by omega)
    rw[q.out,Qe d]at hM;have Z:=hIx hM;generalize zeT E m=m2 at *;have t:Hid (∀o w',Below (wr.alloc o).heap.size (wr.alloc o) w'->Below w.heap.size w w'):=λo w' h=>(y.out.alloc C o).trans (h.mono (by simp;omega))
    unfold argX at P;clear hM hb r l d u q;go_wp2_with (go_at_call 258;apply Hid.out);unfold Hid;refine(P.out _).mono ?_;rintro e w2 ⟨rfl,B⟩;have J:=t.out _ _ B;clear B y0 y1 y2 y3 y4 y5;go_wp2;exact⟨⟨j+1,m2,by omega,rfl,rfl,by omega,O.2,Z.out,J⟩,by dsimp only[intOf];omega⟩
  ·obtain rfl:j=a.length:=by omega
   have d1:decide ((a.length:Int)<(a.length:Int))=false:=by simp
   have F:Hid (N=m):=by unfold Hid;rw[<-hM,List.drop_length,zgi]
   clear hM hb;go_wp2;exact Qj (v:=.int .i64 m) (by simp[results,results258,go_sem]) rfl ⟨by rw[S.out,F.out],y.out⟩
theorem zo8(t:Tree):zx3 t:=
 match t with
 |.node k s a=>zuL k s a λi h=>zo8 a[i]
termination_by SizeOf.sizeOf t
decreasing_by
 have:=List.sizeOf_lt_of_mem (Qy h);simp only[Tree.node.sizeOf_spec];omega
def zfz{a:Type}(step:a->Option a):Nat->a->a
 |0,x=>x
 |n+1,x=>match step x with
  |none=>x
  |some y=>zfz step n y
def fixI{a:Type}(step:a->Option a)(m:a->Nat)(x:a):a:=zfz step (m x) x
structure zn9{α:Type}(I:α->Prop)(step:α->Option α)(m:α->Nat):Prop where
 keep:∀x y,I x->step x=some y->I y
 less:∀x y,I x->step x=some y->m y<m x
theorem zko{c:Type}{I:c->Prop}{step:c->Option c}{m:c->Nat}(h:zn9 I step m):∀(n k:Nat) (x:c),I x->m x<=n->m x<=k->zfz step n x=zfz step k x
 |0,0,_,_,_,_=>rfl
 |0,k+1,x,b,h1,_=>by
  rw[zfz,zfz];cases a:step x with
  |none=>rfl
  |some y=>exact absurd (h.less x y b a) (by omega)
 |n+1,0,x,b,_,h2=>by
  rw[zfz,zfz];cases a:step x with
  |none=>rfl
  |some y=>exact absurd (h.less x y b a) (by omega)
 |n+1,k+1,x,b,h1,h2=>by
  rw[zfz,zfz];cases a:step x with
  |none=>rfl
  |some y=>
   have:=h.less x y b a;exact zko h n k y (h.keep x y b a) (by omega) (by omega)
theorem ztY{a:Type}{I:a->Prop}{step:a->Option a}{m:a->Nat}(h:zn9 I step m){x:a}(c:I x):fixI step m x=match step x with|none=>x|some y=>fixI step m y:=by
 unfold fixI;cases b:step x with
 |none=>
  cases m x with
  |zero=>rfl
  |succ k=>rw[zfz,b]
 |some y=>
  have h1:=h.less x y c b;obtain⟨k,d⟩:∃k,m x=k+1:=⟨m x-1,by omega⟩
  rw[d,zfz,b];exact zko h k (m y) y (h.keep x y c b) (by omega) (Qd _)
theorem zhw{a:Type}{I:a->Prop}{step:a->Option a}{m:a->Nat}(h:zn9 I step m){x:a}(c:I x)(b:step x=none):fixI step m x=x:=by rw[ztY h c,b]
theorem zir{a:Type}{I:a->Prop}{step:a->Option a}{m:a->Nat}(h:zn9 I step m){x y:a}(c:I x)(b:step x=some y):fixI step m x=fixI step m y:=by rw[ztY h c,b]
theorem zhH{a:Type}{Q:a->Prop}{step:a->Option a}(h:∀x y,Q x->step x=some y->Q y):∀(n:Nat) (x:a),Q x->Q (zfz step n x)
 |0,_,b=>b
 |n+1,x,b=>by
  rw[zfz];cases c:step x with
  |none=>exact b
  |some y=>exact zhH h n y (h x y b c)
theorem zgD{a:Type}{Q:a->Prop}{step:a->Option a}{m:a->Nat}(h:∀x y,Q x->step x=some y->Q y){x:a}(b:Q x):Q (fixI step m x):=zhH h _ _ b
abbrev TR:=Tree × RS
def emT:Tree:=.node 2 .zero []
def kT(k:Int):Tree:=.node k .zero []
def byT(f:Nat->Bool):Tree:=.node 3 (setF f) []
def onR(r:RS):RS:={r with pos:=r.pos+1}
def zbO(t:Tree):Tree:=if zeT t 0<=80 then t else emT
def stT(t:Tree):Tree:=.node 6 .zero [t]
def jnT(t u:Tree):Tree:=.node 4 .zero [t,u]
def orT(t u:Tree):Tree:=.node 5 .zero [t,u]
def ze8(s:List UInt8)(x:TR):Nat:=zbP s x.2
def zg6(s:List UInt8)(T:TR):TR:=
 (T.1,if (zaH s {T.2 with op:=T.2.op-1} 41).1=true then (zaH s {T.2 with op:=T.2.op-1} 41).2 else zaA {T.2 with op:=T.2.op-1} 3)
def zoR(s:List UInt8)(r:RS):TR:=
 match (za8 s r).1 with
 |some f=>(byT f,(za8 s r).2)
 |none=>(byT (rgF (zbi s r).1.toNat (zbi s r).1.toNat),(zbi s r).2)
def zhy(s:List UInt8)(A:RS->TR)(r:RS):TR:=
 if zad s r=40 then (if r.op=20 then (kT 0,zaA r 11)else zg6 s (A {r with pos:=r.pos+1,op:=r.op+1}))
 else if zad s r=46 then (byT (λx=>!(rgF 10 10 x)),onR r)
 else if zad s r=94 then (kT 7,onR r)
 else if zad s r=36 then (kT 8,onR r)
 else if zad s r=91 then (byT (zeZ s (onR r)).1,(zeZ s (onR r)).2)
 else zoR s r
def zcR(s:List UInt8)(x:TR):Option TR:=
 if zad s x.2=42 then some (stT x.1,onR x.2)
 else if zad s x.2=63 then some (orT x.1 emT,onR x.2)
 else if zad s x.2=43 then some (jnT x.1 (stT (zbO x.1)),onR x.2)
 else none
def zfQ(s:List UInt8)(A:RS->TR)(r:RS):TR:=fixI (zcR s) (ze8 s) (zhy s A r)
def rowS(s:List UInt8)(P:RS->TR)(x:TR):Option TR:=if zgx s x.2=true then none else some (jnT x.1 (P x.2).1,(P x.2).2)
def rowR(s:List UInt8)(P:RS->TR)(r:RS):TR:=if zgx s r=true then (emT,r)else fixI (rowS s P) (ze8 s) (P r)
def altS(s:List UInt8)(R:RS->TR)(x:TR):Option TR:=if zad s x.2=124 then some (orT x.1 (R (onR x.2)).1,(R (onR x.2)).2)else none
def altR(s:List UInt8)(R:RS->TR)(r:RS):TR:=fixI (altS s R) (ze8 s) (R r)
def altD(s:List UInt8):Nat->RS->TR
 |0,r=>(kT 0,r)
 |d+1,r=>altR s (rowR s (zfQ s (altD s d))) r
def zxy(s:List UInt8)(d:Nat):RS->TR:=zfQ s (altD s d)
def rowD(s:List UInt8)(d:Nat):RS->TR:=rowR s (zxy s d)
mutual
def NoN:Tree->Prop
 |.node k _ a=>k≠1/\NoNK a
def NoNK:List Tree->Prop
 | []=>True
 |t::a=>NoN t/\NoNK a
end
structure zfY(s:List UInt8)(r:RS)(T:TR):Prop where
 step:Step s r T.2
 few:FewT T.1
 non:NoN T.1
def ziS(s:List UInt8)(A:RS->TR):Prop:=∀r:RS,r.pos<=s.length->zfY s r (A r)
theorem zcH(k:Int)(S:Set4):FewT (.node k S []):=by rw[FewT,FewK];exact⟨by simp,trivial⟩
theorem zcJ{k:Int}(S:Set4)(h:k≠1):NoN (.node k S []):=by rw[NoN,NoNK];exact⟨h,trivial⟩
theorem zuP{k:Int}{S:Set4}{t:Tree}(h:FewT t):FewT (.node k S [t]):=by rw[FewT,FewK,FewK];exact⟨by simp,h,trivial⟩
theorem zsM{k:Int}{S:Set4}{t:Tree}(a:k≠1)(h:NoN t):NoN (.node k S [t]):=by rw[NoN,NoNK,NoNK];exact⟨a,h,trivial⟩
theorem zkP{k:Int}{S:Set4}{t u:Tree}(h:FewT t)(h2:FewT u):FewT (.node k S [t,u]):=by rw[FewT,FewK,FewK,FewK];exact⟨by simp,h,h2,trivial⟩
theorem zlt{k:Int}{S:Set4}{t u:Tree}(a:k≠1)(h:NoN t)(h2:NoN u):NoN (.node k S [t,u]):=by rw[NoN,NoNK,NoNK,NoNK];exact⟨a,h,h2,trivial⟩
theorem zth{t:Tree}(h:FewT t):FewT (zbO t):=by unfold zbO;split;exact h;exact zcH _ _
theorem zsN{t:Tree}(h:NoN t):NoN (zbO t):=by unfold zbO;split;exact h;exact zcJ _ (by decide)
theorem zdi{s:List UInt8}{r:RS}{b:Int}(h:zad s r=b)(hb:0<=b):Step s r (onR r)/\r.pos<(onR r).pos/\r.e=0:=by
 obtain⟨h1,h2⟩:=zaQ h hb;exact⟨zfa h1,Xr _,h2⟩
theorem zzK{s:List UInt8}{r:RS}(h:zgx s r=false):r.e=0:=by
 by_cases a:r.e=0
 ·exact a
 ·have:zad s r=-1:=by unfold zad;rw[Qe a]
  unfold zgx at h;rw[this]at h;exact absurd h (by decide)
theorem zrn{s:List UInt8}{r:RS}{T:TR}(i:zad s r=40)(h:zfY s {r with pos:=r.pos+1,op:=r.op+1} T):zfY s r (zg6 s T)/\(r.pos<(zg6 s T).2.pos\/(zg6 s T).2.e≠0):=by
 obtain⟨j,f⟩:=zaQ i (by decide);have a:=h.step;have c:T.2.op-1=r.op:=by have:T.2.op=r.op+1:=a.op;omega
 have g:r.pos+1<=T.2.pos:=a.le;have h1:Step s r {T.2 with op:=T.2.op-1}:=⟨a.inn,by show r.pos<=T.2.pos;omega,c,λe=>absurd f e⟩
 have h2:=(zcV h1.inn (b:=41) (by decide)).1
 have d:Step s r (zg6 s T).2/\r.pos<(zg6 s T).2.pos:=by
  unfold zg6;dsimp only
  split
  ·exact⟨h1.trans h2,Qv (show r.pos<T.2.pos by omega) h2.le⟩
  ·exact⟨h1.trans (zdy h1.inn 3 (by decide)),by rw[(zbU _ 3 (by decide)).1];show r.pos<T.2.pos;omega⟩
 exact⟨⟨d.1,h.few,h.non⟩,.inl d.2⟩
theorem zsU{s:List UInt8}{r:RS}(h:r.pos<=s.length):zfY s r (zoR s r)/\(r.pos<(zoR s r).2.pos\/(zoR s r).2.e≠0):=by
 obtain⟨a,d,c⟩:=zdw h;obtain⟨c1,c2,c3⟩:=zcw h;unfold zoR;cases b:(za8 s r).1 with
 |some f=>exact⟨⟨a,zcH _ _,zcJ _ (by decide)⟩,.inl (c f b).1⟩
 |none=>exact⟨⟨c1,zcH _ _,zcJ _ (by decide)⟩,c2⟩
theorem zmX{s:List UInt8}{A:RS->TR}(l:ziS s A){r:RS}(h:r.pos<=s.length):zfY s r (zhy s A r)/\(r.pos<(zhy s A r).2.pos\/(zhy s A r).2.e≠0):=by
 unfold zhy
 by_cases h1:zad s r=40
 ·rw[Qi h1]
  by_cases h2:r.op=20
  ·rw[Qi h2]
   exact⟨⟨zdy h 11 (by decide),zcH _ _,zcJ _ (by decide)⟩,.inr (zbU r 11 (by decide)).2.2⟩
  ·rw[Qe h2]
   exact zrn h1 (l _ (zaQ h1 (by decide)).1)
 rw[Qe h1]
 have leaf:∀(b k:Int) (S:Set4),0<=b->k≠1->zad s r=b->zfY s r (.node k S [],onR r)/\(r.pos<(onR r).pos\/(onR r).e≠0):=λb k S hb j i=>
  ⟨⟨(zdi i hb).1,zcH _ _,zcJ _ j⟩,.inl (zdi i hb).2.1⟩
 by_cases h2:zad s r=46
 ·rw[Qi h2];exact leaf 46 _ _ (by decide) (by decide) h2
 rw[Qe h2]
 by_cases f:zad s r=94
 ·rw[Qi f];exact leaf 94 _ _ (by decide) (by decide) f
 rw[Qe f]
 by_cases a:zad s r=36
 ·rw[Qi a];exact leaf 36 _ _ (by decide) (by decide) a
 rw[Qe a]
 by_cases d:zad s r=91
 ·rw[Qi d]
  obtain⟨g,m,_⟩:=zdi d (by decide);have c:=zrq g.inn;exact⟨⟨g.trans c,zcH _ _,zcJ _ (by decide)⟩,.inl (Qv m c.le)⟩
 ·rw[Qe d];exact zsU h
theorem zsk{s:List UInt8}{r:RS}{b:Int}(h:zad s r=b)(hb:0<=b):zbP s (onR r)<zbP s r:=by
 obtain⟨h1,h2⟩:=zaQ h hb;unfold zbP;rw[Qi h2,Qi (show (onR r).e=0 from h2)];show s.length-(r.pos+1)+1<_
 omega
theorem ztN{s:List UInt8}{a b:RS}(h:Step s a b):zbP s b<=zbP s a:=by
 have h1:=h.le;have h2:=h.inn;unfold zbP
 by_cases c:a.e=0
 ·rw[Qi c]
  by_cases hb:b.e=0
  ·rw[Qi hb];omega
  ·rw[Qe hb];omega
 ·rw[Qe c,Qe (h.keep c)];exact Qd _
theorem zuo{s:List UInt8}{a b:RS}(h:Step s a b)(d:a.e=0)(c:a.pos<b.pos\/b.e≠0):zbP s b<zbP s a:=by
 have h2:=h.inn;unfold zbP;rw[Qi d]
 by_cases hb:b.e=0
 ·rw[Qi hb]
  rcases c with c|c
  ·omega
  ·exact absurd hb c
 ·rw[Qe hb];omega
def InR(s:List UInt8)(x:TR):Prop:=x.2.pos<=s.length
theorem zc8{s:List UInt8}{x y:TR}(h:zcR s x=some y):∃b,0<=b/\zad s x.2=b/\y.2=onR x.2/\(FewT x.1->FewT y.1)/\(NoN x.1->NoN y.1):=by
 unfold zcR at h
 by_cases h1:zad s x.2=42
 ·rw[Qi h1]at h
  obtain rfl:=QD h;exact⟨42,by decide,h1,rfl,zuP,zsM (by decide)⟩
 rw[Qe h1]at h
 by_cases h2:zad s x.2=63
 ·rw[Qi h2]at h
  obtain rfl:=QD h;exact⟨63,by decide,h2,rfl,λq=>zkP q (zcH _ _),λq=>zlt (by decide) q (zcJ _ (by decide))⟩
 rw[Qe h2]at h
 by_cases a:zad s x.2=43
 ·rw[Qi a]at h
  obtain rfl:=QD h;exact⟨43,by decide,a,rfl,λq=>zkP q (zuP (zth q)),λq=>zlt (by decide) q (zsM (by decide) (zsN q))⟩
 ·rw[Qe a]at h;cases h
theorem zgW(s:List UInt8):zn9 (InR s) (zcR s) (ze8 s) where
 keep x y hx h:=by
  obtain⟨b,hb,c,a,_⟩:=zc8 h;unfold InR;rw[a];exact(zdi c hb).1.inn
 less x y hx h:=by
  obtain⟨b,hb,c,a,_⟩:=zc8 h;unfold ze8;rw[a];exact zsk c hb
theorem zn3{s:List UInt8}{r:RS}{x y:TR}(g:zfY s r x)(h:zcR s x=some y):zfY s r y/\x.2.pos<y.2.pos:=by
 obtain⟨b,hb,d,a,h1,h2⟩:=zc8 h;obtain⟨e,c,_⟩:=zdi d hb;refine⟨⟨?_,h1 g.few,h2 g.non⟩,by rw[a];exact c⟩;rw[a];exact g.step.trans e
theorem zjU{s:List UInt8}{A:RS->TR}(f:ziS s A){r:RS}(h:r.pos<=s.length):zfY s r (zfQ s A r)/\(r.pos<(zfQ s A r).2.pos\/(zfQ s A r).2.e≠0):=by
 have g:=zmX f h;unfold zfQ;refine zgD (Q:=λT=>zfY s r T/\(r.pos<T.2.pos\/T.2.e≠0)) (λx y a d=>?_) g;obtain⟨c,b⟩:=zn3 a.1 d;exact⟨c,.inl (Nat.lt_of_le_of_lt a.1.step.le b)⟩
def zpf(s:List UInt8)(P:RS->TR):Prop:=∀r:RS,r.pos<=s.length->zfY s r (P r)/\(r.pos<(P r).2.pos\/(P r).2.e≠0)
theorem zi1{s:List UInt8}{P:RS->TR}{x y:TR}(h:rowS s P x=some y):zgx s x.2=false/\y=(jnT x.1 (P x.2).1,(P x.2).2):=by
 unfold rowS at h;cases a:zgx s x.2 with
 |true=>rw[a,Qi rfl]at h;cases h
 |false=>rw[a,Qe (by decide)]at h;exact⟨rfl,(QD h).symm⟩
theorem zgL{s:List UInt8}{P:RS->TR}(a:zpf s P):zn9 (InR s) (rowS s P) (ze8 s) where
 keep x y hx h:=by
  obtain⟨_,rfl⟩:=zi1 h;exact(a x.2 hx).1.step.inn
 less x y hx h:=by
  obtain⟨b,rfl⟩:=zi1 h;exact zuo (a x.2 hx).1.step (zzK b) (a x.2 hx).2
theorem zpB{s:List UInt8}{P:RS->TR}(b:zpf s P):ziS s (rowR s P):=by
 intro r h;unfold rowR;cases d:zgx s r with
 |true=>rw[Qi rfl];exact⟨Step.refl h,zcH _ _,zcJ _ (by decide)⟩
 |false=>
  rw[Qe (by decide)];refine zgD (Q:=zfY s r) (λx y a c=>?_) (b r h).1;obtain⟨_,rfl⟩:=zi1 c;have:=(b x.2 a.step.inn).1;exact⟨a.step.trans this.step,zkP a.few this.few,zlt (by decide) a.non this.non⟩
theorem zhW{s:List UInt8}{R:RS->TR}{x y:TR}(h:altS s R x=some y):zad s x.2=124/\y=(orT x.1 (R (onR x.2)).1,(R (onR x.2)).2):=by
 unfold altS at h
 by_cases a:zad s x.2=124
 ·rw[Qi a]at h;exact⟨a,(QD h).symm⟩
 ·rw[Qe a]at h;cases h
theorem zgj{s:List UInt8}{R:RS->TR}(b:ziS s R):zn9 (InR s) (altS s R) (ze8 s) where
 keep x y hx h:=by
  obtain⟨a,rfl⟩:=zhW h;exact(b _ (zdi a (by decide)).1.inn).step.inn
 less x y hx h:=by
  obtain⟨a,rfl⟩:=zhW h;have o:=zdi a (by decide);exact Nat.lt_of_le_of_lt (ztN (b _ o.1.inn).step) (zsk a (by decide))
theorem zxb{s:List UInt8}{R:RS->TR}(b:ziS s R):ziS s (altR s R):=by
 intro r h;unfold altR;refine zgD (Q:=zfY s r) (λx y a c=>?_) (b r h);obtain⟨d,rfl⟩:=zhW c;have o:=zdi d (by decide);have:=b _ o.1.inn;exact⟨a.step.trans (o.1.trans this.step),zkP a.few this.few,zlt (by decide) a.non this.non⟩
theorem zcS(s:List UInt8):∀d,ziS s (altD s d)
 |0=>λr h=>⟨Step.refl h,zcH _ _,zcJ _ (by decide)⟩
 |d+1=>zxb (zpB λr h=>zjU (zcS s d) h)
theorem zfh(s:List UInt8)(d:Nat):zpf s (zxy s d):=λ_ h=>zjU (zcS s d) h
theorem znp(s:List UInt8)(d:Nat):ziS s (rowD s d):=zpB (zfh s d)
section
open Go.RowKit
theorem FourW.grown{w w':World}{g k:Nat}{S:Set4}(h:FourW w k S)(b:w.grownBy w' (some g))(a:k≠g):FourW w' k S:=(b.block k h.lt (λe=>a (QD e))).trans h
def ZeroX(w:World)(k:Nat):Prop:=w.heap[k]? = some (.cells #[.int .i64 0,.int .u64 0,.int .u64 0,.int .u64 0,.int .u64 0,.slice none 0 0] 185 (0,0))
theorem ZeroX.lt{w:World}{k:Nat}(h:ZeroX w k):k<w.heap.size:=by
 rcases ZN k w.heap.size with a|a
 ·exact a
 ·unfold ZeroX at h;simp[Z1 a]at h
theorem ZeroX.grown{w w':World}{g k:Nat}(h:ZeroX w k)(b:w.grownBy w' (some g))(a:k≠g):ZeroX w' k:=(b.block k h.lt (λe=>a (QD e))).trans h
theorem ZeroX.new(w:World):ZeroX (w.alloc (.cells #[.int .i64 0,.int .u64 0,.int .u64 0,.int .u64 0,.int .u64 0,.slice none 0 0] 185)) w.heap.size:=Qp w _
theorem ZeroX.cells{w:World}{k:Nat}(h:ZeroX w k):w.cell? ⟨k,0,none⟩=some (.int .i64 0)/\w.cell? ⟨k,1,none⟩=some (.int .u64 0)/\w.cell? ⟨k,2,none⟩=some (.int .u64 0)/\w.cell? ⟨k,3,none⟩=some (.int .u64 0)/\w.cell? ⟨k,4,none⟩=some (.int .u64 0)/\w.cell? ⟨k,5,none⟩=some (.slice none 0 0):=
 ⟨Qf w k 0 _ _ _ h,Qf w k 1 _ _ _ h,Qf w k 2 _ _ _ h,Qf w k 3 _ _ _ h,Qf w k 4 _ _ _ h,Qf w k 5 _ _ _ h⟩
theorem ZeroX.free{w:World}{k:Nat}(h:ZeroX w k)(j:Nat):w.frozen? ⟨k,j,none⟩=false:=by
 unfold ZeroX at h;simp[World.frozen?, h]
def PutX(w:World)(k:Nat)(cs:List Value):Prop:=w.heap[k]? = some (.cells cs.toArray 185 (0,0))
def zah(W:World)(k:Nat)(a b c d e f:Value):World:=(((((W.setCell ⟨k,0,none⟩ a).setCell ⟨k,1,none⟩ b).setCell ⟨k,2,none⟩ c).setCell ⟨k,3,none⟩ d).setCell ⟨k,4,none⟩ e).setCell ⟨k,5,none⟩ f
theorem ZeroX.fill{W:World}{k:Nat}(h:ZeroX W k)(a b c d e f:Value):PutX (zah W k a b c d e f) k [a,b,c,d,e,f]:=by
 unfold ZeroX at h;unfold PutX zah;simp only[World.setCell,Q8,h]
 rfl
theorem PutX.cells{w:World}{k:Nat}{a b c d e f:Value}(h:PutX w k [a,b,c,d,e,f]):w.cell? ⟨k,0,none⟩=some a/\w.cell? ⟨k,1,none⟩=some b/\w.cell? ⟨k,2,none⟩=some c/\w.cell? ⟨k,3,none⟩=some d/\w.cell? ⟨k,4,none⟩=some e/\w.cell? ⟨k,5,none⟩=some f:=
 ⟨Qf w k 0 _ _ _ h,Qf w k 1 _ _ _ h,Qf w k 2 _ _ _ h,Qf w k 3 _ _ _ h,Qf w k 4 _ _ _ h,Qf w k 5 _ _ _ h⟩
theorem zbr{W w:World}{B k:Nat}(h:Below B w W)(g:B<=k)(a b c d e f:Value):Below B w (zah W k a b c d e f):=
 (((((h.setCell (p:=⟨k,0,none⟩) g _).setCell (p:=⟨k,1,none⟩) g _).setCell (p:=⟨k,2,none⟩) g _).setCell (p:=⟨k,3,none⟩) g _).setCell (p:=⟨k,4,none⟩) g _).setCell (p:=⟨k,5,none⟩) g _
theorem zcX{w wr w':World}{row:Option Nat}{k:Nat}(h:w.grownBy wr row)(c:w.heap.size<=k)(hb:Below k wr w'):w.grownBy w' row:=
 ⟨hb.os.trans h.os,hb.tape.trans h.tape,hb.output.trans h.output,Qn h.size hb.size,λi b a=>(hb.block i (by omega)).trans (h.block i b a)⟩
end
section
open Go.RowKit
mutual
def LX(w:World)(p:Nat->Prop):Tree->List Value->Prop
 |.node k s a,cs=>∃A c,cs=zap k s A a.length c/\s.Wf/\LXK w p a A
def LXK(w:World)(p:Nat->Prop):List Tree->Option Addr->Prop
 | [],_=>True
 |t::c,A=>∃b a cs,A=some ⟨b,a,none⟩/\p b/\cs.length=6/\CellsAt w b a cs/\LX w p t cs/\LXK w p c (some ⟨b,a+6,none⟩)
end
mutual
theorem LX.keep{w w':World}{p q:Nat->Prop}(d:∀b,p b->q b)(a:∀b o,p b->w'.cell? ⟨b,o,none⟩=w.cell? ⟨b,o,none⟩):∀(t:Tree) (cs:List Value),LX w p t cs->LX w' q t cs
 |.node k s f,cs,h=>by
  rw[LX]at h ⊢;obtain⟨A,c,h1,h2,e⟩:=h;exact⟨A,c,h1,h2,LXK.keep d a f A e⟩
theorem LXK.keep{w w':World}{p q:Nat->Prop}(d:∀b,p b->q b)(c:∀b o,p b->w'.cell? ⟨b,o,none⟩=w.cell? ⟨b,o,none⟩):∀(a:List Tree) (A:Option Addr),LXK w p a A->LXK w' q a A
 | [],_,_=>by rw[LXK];trivial
 |t::a,A,h=>by
  rw[LXK]at h ⊢;obtain⟨b,e,cs,h1,h2,i,f,g,k⟩:=h;exact⟨b,e,cs,h1,d b h2,i,λj l=>(c b _ h2).trans (f j l),LX.keep d c t cs g,LXK.keep d c a _ k⟩
end
mutual
theorem LX.lt{w:World}{p:Nat->Prop}{B:Nat}(a:∀b,p b->b<B):∀(t:Tree) (cs:List Value),LX w p t cs->LT w B t cs
 |.node k s d,cs,h=>by
  rw[LX]at h;rw[LT];obtain⟨A,c,h1,h2,e⟩:=h;exact⟨A,c,h1,h2,LXK.lt a d A e⟩
theorem LXK.lt{w:World}{p:Nat->Prop}{B:Nat}(c:∀b,p b->b<B):∀(a:List Tree) (A:Option Addr),LXK w p a A->LK w B a A
 | [],_,_=>by rw[LK];trivial
 |t::a,A,h=>by
  rw[LXK]at h;rw[LK];obtain⟨b,d,cs,h1,h2,i,f,g,e⟩:=h;exact⟨b,d,cs,h1,c b h2,i,f,LX.lt c t cs g,LXK.lt c a _ e⟩
end
theorem LXK.nil(w:World)(p:Nat->Prop)(A:Option Addr):LXK w p [] A:=by rw[LXK];trivial
theorem LX.leaf(w:World)(p:Nat->Prop)(k:Int)(S:Set4)(A:Option Addr)(c:Nat)(h:S.Wf):LX w p (.node k S []) (zap k S A 0 c):=by
 rw[LX];exact⟨A,c,rfl,h,LXK.nil _ _ _⟩
def ziQ(a b:Nat)(x:Nat):Prop:=a<=x/\x<b
def NewX(w w':World)(t:Tree)(A:Option Addr)(c:Nat):Prop:=LX w' (ziQ w.heap.size w'.heap.size) t (zap t.kind t.set A t.kids.length c)
def zjW(g:Nat)(s:ByteArray)(T:TR)(w:World)(e:Ending)(w':World):Prop:=
 ∃A c,e=.returned (argX T.1 A c)/\NewX w w' T.1 A c/\RdEnd g s T.2 w w'
theorem PutX.fill{W:World}{k:Nat}{cs:List Value}(h:PutX W k cs)(hl:cs.length=6)(a b c d e f:Value):PutX (zah W k a b c d e f) k [a,b,c,d,e,f]:=by
 obtain⟨g,j,m,l,i,n,rfl⟩:=zwx hl;unfold PutX at h;unfold PutX zah;simp only[World.setCell,Q8,h]
 rfl
theorem PutX.lt{w:World}{k:Nat}{cs:List Value}(h:PutX w k cs):k<w.heap.size:=by
 rcases ZN k w.heap.size with a|a
 ·exact a
 ·unfold PutX at h;simp[Z1 a]at h
theorem PutX.free{w:World}{k:Nat}{cs:List Value}(h:PutX w k cs)(j:Nat):w.frozen? ⟨k,j,none⟩=false:=by
 unfold PutX at h;simp[World.frozen?, h]
theorem PutX.grown{w w':World}{g k:Nat}{cs:List Value}(h:PutX w k cs)(b:w.grownBy w' (some g))(a:k≠g):PutX w' k cs:=(b.block k h.lt (λe=>a (QD e))).trans h
theorem PutX.new(w:World)(cs:List Value):PutX (w.alloc (.cells cs.toArray 185)) w.heap.size cs:=Qp w _
def zok(k:Int)(d a:Tree)(p:Nat->Prop)(w:World)(e:Ending)(w':World):Prop:=
 ∃A c,e=.returned (argX (.node k .zero [d,a]) A c)/\LX w' (λb=>p b\/ziQ w.heap.size w'.heap.size b) (.node k .zero [d,a]) (zap k .zero A 2 c)/\Below w.heap.size w w'
theorem zhm(k:Int)(e f:Tree)(l q:Option Addr)(c1 c2:Nat)(p:Nat->Prop)(w:World)(z:∀b,p b->b<w.heap.size)
 (h1:LX w p e (zap e.kind e.set l e.kids.length c1)) (h2:LX w p f (zap f.kind f.set q f.kids.length c2)):
 Calls prog 176 #[.int .i64 k,argX e l c1,argX f q c2] w (zok k e f p w):=by
 have A:Hid (∀s r u,∀W,W=(((w.alloc s).alloc r).alloc u).alloc (.cells #[.int .i64 e.kind,.int .u64 e.set.a,.int .u64 e.set.b,.int .u64 e.set.c,.int .u64 e.set.d,.slice l e.kids.length c1,.int .i64 f.kind,.int .u64 f.set.a,.int .u64 f.set.b,.int .u64 f.set.c,.int .u64 f.set.d,.slice q f.kids.length c2] 185)->
  LXK W (λb=>p b\/ziQ w.heap.size W.heap.size b) [e,f] (some ⟨w.heap.size+1+1+1,0,none⟩)/\Below w.heap.size w W):=λs r u W x=>by
  have m:Below w.heap.size w W:=by rw[x];exact(((((Qg _ _).alloc (Qd _) s).alloc (by simp) r).alloc (by simp;omega) u).alloc (by simp;omega) _)
  have B:W.heap.size=w.heap.size+1+1+1+1:=by rw[x];simp
  have g:W.heap[w.heap.size+1+1+1]? = some (.cells #[.int .i64 e.kind,.int .u64 e.set.a,.int .u64 e.set.b,.int .u64 e.set.c,.int .u64 e.set.d,.slice l e.kids.length c1,.int .i64 f.kind,.int .u64 f.set.a,.int .u64 f.set.b,.int .u64 f.set.c,.int .u64 f.set.d,.slice q f.kids.length c2] 185 (0,0)):=by
   rw[x];have:=Qp (((w.alloc s).alloc r).alloc u) (.cells #[.int .i64 e.kind,.int .u64 e.set.a,.int .u64 e.set.b,.int .u64 e.set.c,.int .u64 e.set.d,.slice l e.kids.length c1,.int .i64 f.kind,.int .u64 f.set.a,.int .u64 f.set.b,.int .u64 f.set.c,.int .u64 f.set.d,.slice q f.kids.length c2] 185)
   simpa using this
  have i:∀(t:Tree) (cs:List Value),LX w p t cs->LX W (λb=>p b\/ziQ w.heap.size W.heap.size b) t cs:=λt cs h=>
   LX.keep (λb hb=>.inl hb) (λb o hb=>m.cell (p:=⟨b,o,none⟩) (z b hb)) t cs h
  have n:p (w.heap.size+1+1+1)\/ziQ w.heap.size W.heap.size (w.heap.size+1+1+1):=.inr ⟨by omega,by omega⟩;refine⟨?_,m⟩;rw[LXK];refine⟨_,0,_,rfl,n,rfl,λj y=>?_,i _ _ h1,?_⟩
  ·rw[Zc,Qf W _ j _ _ _ g]
   match j,y with
   |0,_=>rfl
   |1,_=>rfl
   |2,_=>rfl
   |3,_=>rfl
   |4,_=>rfl
   |5,_=>rfl
  ·rw[LXK]
   refine⟨_,6,_,rfl,n,rfl,λj y=>?_,i _ _ h2,LXK.nil _ _ _⟩;rw[Qf W _ (6+j) _ _ _ g]
   match j,y with
   |0,_=>rfl
   |1,_=>rfl
   |2,_=>rfl
   |3,_=>rfl
   |4,_=>rfl
   |5,_=>rfl
 unfold argX;clear h1 h2 z
 go_in
 go_wp2_with fail;refine Qj (v:=argX (.node k .zero [e,f]) (some ⟨w.heap.size+1+1+1,0,none⟩) 2) (by simp[results,results176,go_sem,argX,Tree.kind,Tree.set,Tree.kids,Set4.zero]) rfl ⟨_,_,rfl,?_,(A.out _ _ _ _ rfl).2⟩;rw[LX];exact⟨_,_,rfl,zbI,(A.out _ _ _ _ rfl).1⟩
structure OutSt(g:Nat)(s:ByteArray)(w:World)(k:Nat)(x:TR)(A:Option Addr)(c:Nat)(wr:World):Prop where
 rd:RdAt g s x.2 wr
 out:PutX wr k (zap x.1.kind x.1.set A x.1.kids.length c)
 tree:LX wr (λb=>w.heap.size<b/\b≠k/\b<wr.heap.size) x.1 (zap x.1.kind x.1.set A x.1.kids.length c)
 zero:ZeroX wr w.heap.size
 frame:w.grownBy wr (some g)
 far:w.heap.size<k
theorem OutSt.lt{g:Nat}{s:ByteArray}{w:World}{k:Nat}{x:TR}{A:Option Addr}{c:Nat}{wr:World}(h:OutSt g s w k x A c wr):LT wr wr.heap.size x.1 (zap x.1.kind x.1.set A x.1.kids.length c):=LX.lt (λ_ hb=>hb.2.2) _ _ h.tree
theorem OutSt.call{g:Nat}{s:ByteArray}{w:World}{k:Nat}{x:TR}{q:RS}{A:Option Addr}{c:Nat}{wr w':World}(a:g<w.heap.size)(h:OutSt g s w k x A c wr)(e:RdEnd g s q wr w'):OutSt g s w k (x.1,q) A c w':=
 ⟨e.1,h.out.grown e.2 (by have:=h.far;omega),
  LX.keep (λb hb=>⟨hb.1,hb.2.1,Qv hb.2.2 e.2.size⟩) (λb o hb=>zgB e.2 hb.2.2 (by have:=hb.1;omega)) _ _ h.tree,
  h.zero.grown e.2 (by omega),zay h.frame e.2,h.far⟩
theorem OutSt.low{g:Nat}{s:ByteArray}{w:World}{k:Nat}{x:TR}{A:Option Addr}{c:Nat}{wr w':World}(a:g<w.heap.size)(h:OutSt g s w k x A c wr)(hb:Below wr.heap.size wr w'):OutSt g s w k x A c w':=
 h.call a (zfy h.rd hb)
theorem OutSt.put{g:Nat}{s:ByteArray}{w:World}{k:Nat}{x:TR}{A:Option Addr}{c:Nat}{wr:World}(p:g<w.heap.size)(h:OutSt g s w k x A c wr)(t:Tree)(j:Option Addr)(f:Nat)
 (n:LX wr (λb=>w.heap.size<b/\b≠k/\b<wr.heap.size) t (zap t.kind t.set j t.kids.length f)):
 OutSt g s w k (t,x.2) j f (zah wr k (.int .i64 t.kind) (.int .u64 t.set.a) (.int .u64 t.set.b) (.int .u64 t.set.c) (.int .u64 t.set.d) (.slice j t.kids.length f)):=by
 have h1:=h.far;have hb:Below k wr (zah wr k (.int .i64 t.kind) (.int .u64 t.set.a) (.int .u64 t.set.b) (.int .u64 t.set.c) (.int .u64 t.set.d) (.slice j t.kids.length f)):=zbr (Qg _ _) (Qd _) _ _ _ _ _ _
 have l:∀i,i≠k->(zah wr k (.int .i64 t.kind) (.int .u64 t.set.a) (.int .u64 t.set.b) (.int .u64 t.set.c) (.int .u64 t.set.d) (.slice j t.kids.length f)).heap[i]? = wr.heap[i]? := λi e=>by
  unfold zah;rw[Ql _ _ _ _ e,Ql _ _ _ _ e,Ql _ _ _ _ e,Ql _ _ _ _ e,Ql _ _ _ _ e,Ql _ _ _ _ e]
 have m:=hb.size;refine⟨(hb.block g (by omega)).trans h.rd,h.out.fill rfl _ _ _ _ _ _,LX.keep (λb hb=>⟨hb.1,hb.2.1,Qv hb.2.2 m⟩) (λb o hb=>?_) _ _ n,(hb.block _ (by omega)).trans h.zero,zcX h.frame (by omega) hb,h1⟩;simp only[World.cell?, l b hb.2.1]
theorem OutSt.done{g:Nat}{s:ByteArray}{w:World}{k:Nat}{x:TR}{A:Option Addr}{c:Nat}{wr:World}(n:g<w.heap.size)(h:OutSt g s w k x A c wr):
 PutX (zah wr w.heap.size (.int .i64 x.1.kind) (.int .u64 x.1.set.a) (.int .u64 x.1.set.b) (.int .u64 x.1.set.c) (.int .u64 x.1.set.d) (.slice A x.1.kids.length c)) w.heap.size (zap x.1.kind x.1.set A x.1.kids.length c)/\
 NewX w (zah wr w.heap.size (.int .i64 x.1.kind) (.int .u64 x.1.set.a) (.int .u64 x.1.set.b) (.int .u64 x.1.set.c) (.int .u64 x.1.set.d) (.slice A x.1.kids.length c)) x.1 A c/\
 RdEnd g s x.2 w (zah wr w.heap.size (.int .i64 x.1.kind) (.int .u64 x.1.set.a) (.int .u64 x.1.set.b) (.int .u64 x.1.set.c) (.int .u64 x.1.set.d) (.slice A x.1.kids.length c)):=by
 have hb:Below w.heap.size wr (zah wr w.heap.size (.int .i64 x.1.kind) (.int .u64 x.1.set.a) (.int .u64 x.1.set.b) (.int .u64 x.1.set.c) (.int .u64 x.1.set.d) (.slice A x.1.kids.length c)):=zbr (Qg _ _) (Qd _) _ _ _ _ _ _
 have l:∀i,i≠w.heap.size->(zah wr w.heap.size (.int .i64 x.1.kind) (.int .u64 x.1.set.a) (.int .u64 x.1.set.b) (.int .u64 x.1.set.c) (.int .u64 x.1.set.d) (.slice A x.1.kids.length c)).heap[i]? = wr.heap[i]? := λi f=>by
  unfold zah;rw[Ql _ _ _ _ f,Ql _ _ _ _ f,Ql _ _ _ _ f,Ql _ _ _ _ f,Ql _ _ _ _ f,Ql _ _ _ _ f]
 have m:=hb.size;refine⟨h.zero.fill _ _ _ _ _ _,LX.keep (λb hb=>⟨Q5 hb.1,Qv hb.2.2 m⟩) (λb o hb=>?_) _ _ h.tree,(hb.block g n).trans h.rd,zcX h.frame (Qd _) hb⟩;have j:b≠w.heap.size:=λe=>by have:=hb.1;omega
 simp only[World.cell?, l b j]
end
