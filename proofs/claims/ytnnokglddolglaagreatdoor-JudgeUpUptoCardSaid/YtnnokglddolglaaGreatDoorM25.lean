/- Lemmas for the last texts. -/
import Derived.Test.YtnnokglddolglaaGreatDoorM24
import Derived.Deep.Strs
set_option maxHeartbeats 3200000
set_option maxRecDepth 100000
namespace Go.Proofs.YtnnokglddolglaaGreatDoor
open Go.RowKit Go.Proofs.Tryz
def oneP(k:Int)(l:List UInt8):List UInt8:=
 if k=1 then zav l else if k=2 then zcg l else if k=3 then (zbQ l).getD l else if k=4 then (b64D l).getD l else if k=5 then zck l else if k=6 then ztU l
 else if k=7 then zb6 l else if k=8 then outL [0] l else if k=9 then zaF l else if k=10 then Lib.decDigits l.length else cmdL l
def zmN(a:List Int)(l:List UInt8):List UInt8:=a.foldl (λl k=>oneP k l) l
theorem zhC:∀(l:List UInt8) (n b:Nat) (r:List UInt8),zcb n b l=some r->r.length<=l.length
 | [],n,b,r,h=>by
  unfold zcb at h
  split at h
  ·cases h
  ·cases h;exact Qd _
 |x::l,n,b,r,h=>by
  unfold zcb at h
  split at h
  ·cases h
  ·split at h
   ·have:=zhC l _ _ r h
    rw[Qo];omega
   ·cases a:zcb ((n*64+(idx x).toNat) % 2 ^ (b-2)) (b-2) l with
    |none=>rw[a]at h;cases h
    |some q=>
     rw[a]at h;have:=zhC l _ _ q a;cases h;rw[Qo,Qo];omega
theorem zm4(l:List UInt8):(zdI l).length<=l.length:=by
 unfold zdI Lib.trimSuffix
 split
 ·rw[Qz];exact Nat.min_le_right _ _
 ·exact Qd _
theorem zwU{l r:List UInt8}(h:b64D l=some r):r.length<=l.length:=by
 unfold b64D at h
 split at h
 ·cases h
 ·have h1:=zhC _ _ _ _ h
  have h2:=zm4 (zdI l);have a:=zm4 l;omega
theorem zvN(k:Int)(l:List UInt8)(hl:l.length<1000000):(oneP k l).length<=l.length+6:=by
 unfold oneP
 split
 ·unfold zav;rw[Qh];omega
 ·split
  ·have:=zqM l;omega
  ·split
   ·cases h:zbQ l with
    |none=>rw[XG];omega
    |some r=>have:=zrl _ l r (Qd _) h;rw[XF];omega
   ·split
    ·cases h:b64D l with
     |none=>rw[XG];omega
     |some r=>have:=zwU h;rw[XF];omega
    ·split
     ·have:=zn0 l;omega
     ·split
      ·have:=zvZ l;omega
      ·split
       ·have:=zmM l false;unfold zb6;omega
       ·split
        ·have:(outL [0] l).length<=l.length:=Zl _ _
         omega
        ·split
         ·have:=zoO l;omega
         ·split
          ·have:=(zil 5 l.length (by omega)).2;omega
          ·have:=zyK l;omega
theorem zsH(s:ByteArray)(w:World)(d:s.size<=140737488351232):
 Calls prog 191 #[.string s,.func (.func 192) #[] #[]] w λe w'=>e=.returned (.string (bs ((zbQ s.data.toList).getD s.data.toList)))/\Below w.heap.size w w':=by
 have a:=hIx (zlB s w d);cases b:zbQ s.data.toList with
 |none=>
  rw[b]at a;unfold zkq ze5 at a;dsimp only at a;clear b;rw[XG,zdZ]
  go_in
  go_wp2_with fail;refine a.out.mono ?_;rintro e c ⟨rfl,hb⟩;go_wp2;go_ret;exact⟨rfl,hb⟩
 |some r=>
  rw[b]at a;unfold zkq ze5 at a;dsimp only at a;clear b;rw[XF]
  go_in
  go_wp2_with fail;refine a.out.mono ?_;rintro e c ⟨rfl,hb⟩;go_wp2;go_ret;exact⟨rfl,hb⟩
theorem zua(s:ByteArray)(w:World)(d:s.size<=140737488351232):
 Calls prog 191 #[.string s,.func (.func 193) #[] #[]] w λe w'=>e=.returned (.string (bs ((b64D s.data.toList).getD s.data.toList)))/\Below w.heap.size w w':=by
 have a:=hIx (zhf s w d);cases b:b64D s.data.toList with
 |none=>
  rw[b]at a;unfold zkq ze5 at a;dsimp only at a;clear b;rw[XG,zdZ]
  go_in
  go_wp2_with fail;refine a.out.mono ?_;rintro e c ⟨rfl,hb⟩;go_wp2;go_ret;exact⟨rfl,hb⟩
 |some r=>
  rw[b]at a;unfold zkq ze5 at a;dsimp only at a;clear b;rw[XF]
  go_in
  go_wp2_with fail;refine a.out.mono ?_;rintro e c ⟨rfl,hb⟩;go_wp2;go_ret;exact⟨rfl,hb⟩
theorem zwr(k:Int)(s:ByteArray)(w:World)(h1:1<=k)(h2:k<=11)(r:s.size<=1000000)(c:LibOk w)(b:TabOk w):
 Calls prog 154 #[.int .i64 k,.string s] w λe w'=>e=.returned (.string (bs (oneP k s.data.toList)))/\Below w.heap.size w w':=by
 have g:s.size<=maxLen:=by unfold maxLen;omega
 have hb:s.size<=140737488351232:=by omega
 have q:=hIx (zbg s w g);have u:=hIx (zdG s w hb);have m:=hIx (zsH s w hb);have n:=hIx (zua s w hb);have l:=hIx (zjE s w hb);have i:=hIx (zvG s w c (by omega));have j:=hIx (zjd s w hb);have o:=hIx (zqF s w hb);have t:=hIx (zdK s w g);have h:=hIx (zhn s.size w (by omega) b);have f:=hIx (zym s w hb);have d:s.data.toList.length=s.size:=by simp
 unfold oneP;rw[d];clear c b r g hb d;obtain rfl|rfl|rfl|rfl|rfl|rfl|rfl|rfl|rfl|rfl|rfl:k=1\/k=2\/k=3\/k=4\/k=5\/k=6\/k=7\/k=8\/k=9\/k=10\/k=11:=by omega
 all_goals
  simp only[Int.reduceEq,reduceIte]
  go_in
  go_wp2_with fail
 ·refine q.out.mono ?_
  rintro e a ⟨rfl,hb⟩;go_wp2;go_ret;exact⟨rfl,hb⟩
 ·refine u.out.mono ?_
  rintro e a ⟨rfl,hb⟩;go_wp2;go_ret;exact⟨rfl,hb⟩
 ·refine m.out.mono ?_
  rintro e a ⟨rfl,hb⟩;go_wp2;go_ret;exact⟨rfl,hb⟩
 ·refine n.out.mono ?_
  rintro e a ⟨rfl,hb⟩;go_wp2;go_ret;exact⟨rfl,hb⟩
 ·refine l.out.mono ?_
  rintro e a ⟨rfl,hb⟩;go_wp2;go_ret;exact⟨rfl,hb⟩
 ·refine i.out.mono ?_
  rintro e a ⟨rfl,hb⟩;go_wp2;go_ret;exact⟨rfl,hb⟩
 ·refine j.out.mono ?_
  rintro e a ⟨rfl,hb⟩;go_wp2;go_ret;exact⟨rfl,hb⟩
 ·refine o.out.mono ?_
  rintro e a ⟨rfl,hb⟩;go_wp2;go_ret;exact⟨rfl,hb⟩
 ·refine t.out.mono ?_
  rintro e a ⟨rfl,p⟩;rw[p];go_wp2;go_ret;exact⟨rfl,Qg _ _⟩
 ·refine h.out.mono ?_
  rintro e a ⟨rfl,hb⟩;go_wp2;go_ret;exact⟨rfl,hb⟩
 ·refine f.out.mono ?_
  rintro e a ⟨rfl,hb⟩;go_wp2;go_ret;exact⟨rfl,hb⟩
def zeS(a:List Int)(l:List UInt8):Int:=if zbt a≠0 then zbt a else if 8192<l.length then 2 else 0
def runT(a:List Int)(l:List UInt8):List UInt8:=if zeS a l≠0 then []else zmN a l
def zzG(a:List Int)(s:List UInt8)(w:World)(t i:Value)(wr:World):Prop:=
 ∃(k:Nat) (x:ByteArray),k<=a.length/\i=.int .i64 k/\t=.string x/\Hid (x.data.toList=zmN (a.take k) s)/\x.size<=8192+6*k/\Below w.heap.size w wr
theorem zu2{a:List Int}(h:zbt a=0):a.length<=8/\∀k∈a,1<=k/\k<=11:=zsz.1 h
theorem zwL(a:List Int)(A:Option Addr)(c:Nat)(s:ByteArray)(w:World)(h:Sl w w.heap.size 1 A a.length (a.map (Value.int .i64)))(hl:a.length<=4194304)(f:LibOk w)(d:TabOk w):
 Calls prog 116 #[.slice A a.length c,.string s] w λe w'=>e=.returned (.tuple #[.string (bs (runT a s.data.toList)),.int .i64 (zeS a s.data.toList)])/\Below w.heap.size w w':=by
 have B:=hIx (zi9 a A c w h hl);have r:s.data.toList.length=s.size:=by simp
 by_cases g:zbt a=0
 ·have m:=zu2 g
  by_cases o:8192<s.size
  ·have n:Hid (zeS a s.data.toList=2/\runT a s.data.toList=[]):=by
    have:zeS a s.data.toList=2:=by unfold zeS;rw[Qe (by rw[g];simp),Qi (by omega)]
    refine⟨this,?_⟩;unfold runT;rw[Qi (by rw[this];decide)]
   have S:decide ((8192:Int)<(s.size:Int))=true:=Qu (by omega);rw[g]at B;rw[n.out.1,n.out.2];clear g m o h f d r
   go_in
   go_wp2_with fail;refine B.out.mono ?_;rintro e K ⟨rfl,hb⟩;go_wp2
   go_ret2
   exact⟨rfl,hb⟩
  ·have n:Hid (zeS a s.data.toList=0/\runT a s.data.toList=zmN a s.data.toList):=by
    have:zeS a s.data.toList=0:=by unfold zeS;rw[Qe (by rw[g];simp),Qe (by omega)]
    refine⟨this,?_⟩;unfold runT;rw[Qe (by rw[this];decide)]
   have S:decide ((8192:Int)<(s.size:Int))=false:=Qs (by omega);have Q:s.size<=8192:=by omega
   rw[g]at B;rw[n.out.1,n.out.2];have J:Hid (∀W,Below w.heap.size w W->LibOk W/\TabOk W):=λW hb=>⟨f.below hb,d.below hb⟩
   have G:=hIx m;have P:=m.1;clear g m o f d r
   go_in
   go_wp2_with fail;refine B.out.mono ?_;rintro e K ⟨rfl,hb⟩;go_wp2
   go_loopw [1,19] (λt i wr=>zzG a s.data.toList w t i wr) (λ_ i _=>a.length-(intOf i).toNat)
   case atStart=>exact⟨0,s,Qm _,rfl,rfl,by unfold Hid zmN;rw[XR];rfl,by omega,hb⟩
   case round=>
    obtain⟨k,x,hk,rfl,rfl,L,N,l⟩:=hrel;clear hb
    by_cases p:k<a.length
    ·have O:decide ((k:Int)<(a.length:Int))=true:=Qu (by omega)
     have i7:IntKind.i64.wrap ((k:Int)+1)=(k:Int)+1:=Qx _ (by omega);obtain⟨b,T,rfl,X,v⟩:=(h.below l).src (by rw[Qh];omega);have H:=v k (by rw[Qh];exact p);rw[Zd]at H;have q:=G.out.2 a[k] (Qy p)
     have U:Hid (zmN (a.take (k+1)) s.data.toList=oneP a[k] (zmN (a.take k) s.data.toList)):=by
      unfold Hid zmN;rw[Qq p,Xx]
      rfl
     generalize a[k]=z at *;obtain⟨y,D⟩:=J.out wr l;have Y:=hIx (zwr z x wr q.1 q.2 (by omega) y D);have j:=zvN z x.data.toList (by simp;omega);rw[show x.data.toList.length=x.size by simp]at j;have u:=hIx j;have E:=hIx l;clear y D v h j l q;go_wp2_with fail;refine Y.out.mono ?_;rintro e w2 ⟨rfl,F⟩;have I:=E.out.trans (F.mono E.out.size);clear F;go_wp2_with fail
     go_roundw
     case rel=>exact⟨k+1,_,by omega,by go_num,rfl,by unfold Hid;rw[zae,U.out,L.out],by rw[zaj];have:=u.out;omega,I⟩
     case measure=>simp[intOf] <;> omega
    ·obtain rfl:k=a.length:=by omega
     have O:decide ((a.length:Int)<(a.length:Int))=false:=by simp
     have V:x=bs (zmN a s.data.toList):=zg5 (by rw[L.out,QV]);clear h;go_wp2
     go_ret2
     exact⟨by rw[<-V];rfl,l⟩
 ·have n:Hid (zeS a s.data.toList=zbt a/\runT a s.data.toList=[]):=by
   have:zeS a s.data.toList=zbt a:=by unfold zeS;rw[Qi g]
   refine⟨this,?_⟩;unfold runT;rw[Qi (by rw[this];exact g)]
  have Z:(zbt a != 0)=true:=Q6.2 g;have q1:(zbt a==0)=false:=Qb.2 g;rw[n.out.1,n.out.2];generalize zbt a=C at *;clear g h f d r
  go_in
  go_wp2_with fail;refine B.out.mono ?_;rintro e K ⟨rfl,hb⟩;go_wp2
  go_ret2
  exact⟨rfl,hb⟩
def hitX(a:List Int)(b:Bool)(f:ByteArray->Bool)(x:Pair):Bool:=
 (zeS a x.2.data.toList==0)&&decide ((bs (runT a x.2.data.toList)).size<=8192)&&(f (bs (runT a x.2.data.toList)) != b)
def StR(F:Nat->Prop)(g:Nat)(r:zcq)(f:ByteArray->Bool)(w:World):Prop:=RBox g r 0 0 .nilFunc w\/Ready F g r f w
section
variable {F:Nat->Prop} {g:Nat} {r:zcq} {f:ByteArray->Bool} {w W:World}
theorem StR.next(h:StR F g r f w)(hb:Below w.heap.size w W):StR F g r f W:=by
 rcases h with h|h
 ·exact .inl (h.keep (hb.block g h.lt))
 ·exact .inr (h.next hb)
theorem StR.keep(h:StR F g r f w)(c:w.heap.size<=W.heap.size)(a:W.heap[g]? = w.heap[g]?)(b:∀k,k<w.heap.size->¬F k->W.heap[k]? = w.heap[k]?):StR F g r f W:=by
 rcases h with h|h
 ·exact .inl (RBox.keep h a)
 ·exact .inr (h.keep c a b)
theorem StR.more{a:Nat->Prop}(h:StR F g r f w)(b:∀k,a k->F k\/w.heap.size<=k):StR a g r f w:=by
 rcases h with h|h
 ·exact .inl h
 ·exact .inr (h.more b)
theorem Ready.cells(h:Ready F g r f w):w.cell? ⟨g,3,none⟩=some r.ps/\w.cell? ⟨g,4,none⟩=some (.bool r.nt):=by
 obtain⟨t,h⟩:=h.box;exact⟨h.rule.1,h.rule.2.1⟩
theorem StR.cells(h:StR F g r f w):w.cell? ⟨g,3,none⟩=some r.ps/\w.cell? ⟨g,4,none⟩=some (.bool r.nt):=by
 rcases h with h|h
 ·exact⟨h.rule.1,h.rule.2.1⟩
 ·exact h.cells
theorem StR.lt(h:StR F g r f w):g<w.heap.size:=QT w _ h.cells.1
end
theorem zvH{a:Type}(p:a->Bool)(l:List a)(k:Nat)(c:k<l.length)(h:(l.take k).any p=false)(b:p l[k]=false):(l.take (k+1)).any p=false:=by
 rw[Qq c,List.any_append,h,Bool.false_or,List.any_cons,b];rfl
theorem zxR{a:Type}(p:a->Bool)(l:List a)(k:Nat)(c:k<l.length)(b:p l[k]=true):l.any p=true:=Xq.2 ⟨l[k],Qy c,b⟩
def zxM(B:Nat)(F:Nat->Prop)(g:Nat)(r:zcq)(f:ByteArray->Bool)(p:Pair->Bool)(l:List Pair)(w:World)(v:Value)(wr:World):Prop:=
 ∃k:Nat,k<=l.length/\v=.int .i64 k/\StR F g r f wr/\Oth B g w wr/\Hid ((l.take k).any p=false)
theorem znV(B:Nat)(F:Nat->Prop)(g:Nat)(r:zcq)(a:List Int)(pA:Option Addr)(pc:Nat)(h4:r.ps=.slice pA a.length pc)(hi:a.length<=4194304)(l:List Pair)(hm:l.length<=4398046511104)(A:Option Addr)(c:Nat)(w:World)(hB:B<=g)(hF:∀k,F k->k<w.heap.size)
 (h:StR F g r (tstO r.op r.arg) w) (hp:∀W,Oth B g w W->Sl W W.heap.size 1 pA a.length (a.map (Value.int .i64))) (hl:∀W,Oth B g w W->Sl W W.heap.size 2 A l.length (l.flatMap za9))
 (hL:∀W,Oth B g w W->LibOk W) (U:∀W,Oth B g w W->TabOk W) (h1:1<=r.op) (h2:r.op<=12) (ha:r.arg.size<=1048576) (h0:argC r.op r.arg=0):
 Calls prog 83 #[.pointer (some ⟨g,0,none⟩),.slice A l.length c] w λe w'=>e=.returned (.bool (l.any (hitX a r.nt (tstO r.op r.arg))))/\StR F g r (tstO r.op r.arg) w'/\Oth B g w w':=by
 have HH:Hid (∀W s,Oth B g w W->StR F g r (tstO r.op r.arg) W->s.size<=8192->Calls prog 117 #[.pointer (some ⟨g,0,none⟩),.string s] W (zhv B F g r (tstO r.op r.arg) s W)):=λW s n Z S=>by
  rcases Z with Z|Z
  ·exact zoQ B F g r s W hB (λk hk=>Qv (hF k hk) n.below.size) Z (λW' hd=>hL W' (n.trans hd)) h1 h2 ha h0 S
  ·exact zoy B F g r _ s W hB Z (hL W n) S
 generalize tstO r.op r.arg=f at *
 have K:Hid (∀W (x:ByteArray),Oth B g w W->Calls prog 116 #[.slice pA a.length pc,.string x] W λe w'=>e=.returned (.tuple #[.string (bs (runT a x.data.toList)),.int .i64 (zeS a x.data.toList)])/\Below W.heap.size W w'):=
  λW x n=>zwL a pA pc x W (hp W n) hi (hL W n) (U W n)
 have h8:=hIx hl;obtain⟨i,L⟩:∃i,hitX a r.nt f=i:=⟨_,rfl⟩
 have V:Hid (∀x:Pair,i x=((zeS a x.2.data.toList==0)&&decide ((bs (runT a x.2.data.toList)).size<=8192)&&(f (bs (runT a x.2.data.toList)) != r.nt))):=λx=>by rw[<-L];rfl
 rw[L];have he:=hIx h4;clear h4 hp hl hL U h0 L h1 h2 ha hF
 go_in
 go_wp2
 go_loopw [11] (λv wr=>zxM B F g r f i l w v wr) (λv _=>l.length-(intOf v).toNat)
 case atStart=>exact⟨0,Qm _,rfl,h,⟨Qg _ _,λ_ _ _=>rfl⟩,rfl⟩
 case round=>
  obtain⟨k,hk,rfl,G,n,C⟩:=hrel
  by_cases Q:k<l.length
  ·have d1:decide ((k:Int)<(l.length:Int))=true:=by simp;omega
   obtain⟨b,hj,rfl,hg,a0,a1⟩:=zpU (h8.out wr n) k Q;have HN:=hIx C;have HX:=hIx (V.out l[k])
   have X:Hid (∀q,l[k]=q->(i q=true->l.any i=true)/\(i q=false->(l.take (k+1)).any i=false)):=λq hq=>by
    subst hq;exact⟨zxR i l k Q,zvH i l k Q C.out⟩
   have HQ:=hIx (X.out _ rfl);generalize l[k]=x at *;obtain⟨x1,o⟩:=x;dsimp only at a0 a1;clear X V h8;go_upto_region 4 with fail
   obtain⟨J,t⟩:∃J,wr.alloc (.cells #[.string x1,.string o] 163)=J:=⟨_,rfl⟩
   rw[t];have u:Below wr.heap.size wr J:=by rw[<-t];exact WaL
   have S:B<=wr.heap.size:=Qn hB (Q5 G.lt);have ob:Oth B g w J:=n.trans (Oth.of u S);have sb:=G.next u;have b1:J.cell? ⟨wr.heap.size,1,none⟩=some (.string o):=by rw[<-t];exact Qf _ _ 1 _ _ _ (Qp wr _)
   have c3:=sb.cells.1;rw[he.out]at c3;have z:=Qn S u.size;have HR:=hIx (K.out J.drew o (ob.trans (Oth.drew z)));have HW:=hIx t;have Y:=hIx ob;have h5:=hIx sb;clear t a0 a1 hg ob sb G n C
   go_region_held3 (λw'=>w'.cell? ⟨g,3,none⟩=some (.slice pA a.length pc)/\w'.cell? ⟨wr.heap.size,1,none⟩=some (.string o))
    (first|exact⟨c3,b1⟩|exact⟨zaa p c3,zaa p b1⟩|go_keep|fail "keep")
    (first|(go_at_call 116;(with_reducible refine HR.out.mono ?_);rintro e N ⟨rfl,I⟩;have p:Below J.heap.size J N:=undrew I)|fail "arm")
   have h9:Hid (Oth B g w N):=Y.out.trans (Oth.of p z);have h7:Hid (StR F g r f N):=h5.out.next p;have m:Hid (i (x1,o)=((zeS a o.data.toList==0)&&decide ((bs (runT a o.data.toList)).size<=8192)&&(f (bs (runT a o.data.toList)) != r.nt))):=HX.out;have hc:B<=N.heap.size:=Qn z p.size;have c4:=h7.out.cells.2;clear HX HR Y h5 HW I c3 b1 u S z K;generalize zeS a o.data.toList=E at *;generalize bs (runT a o.data.toList)=T at *;generalize i (x1,o)=hit at *
   have HC:Hid (∀W,Oth B g w W->StR F g r f W->hit=false->zxM B F g r f i l w (.int .i64 ((k:Int)+1)) W):=λW h1 h2 h3=>
    ⟨k+1,by omega,rfl,h2,h1,HQ.out.2 h3⟩
   have i7:IntKind.i64.wrap ((k:Int)+1)=(k:Int)+1:=Qx _ (by omega);have j:Hid (Oth B g w N.drew):=h9.out.trans (Oth.drew hc);have P:Hid (StR F g r f N.drew):=h7.out.next (Qg _ _).drew;cases hE:(E==0)with
   |false=>
    have D:Hid (hit=false):=by unfold Hid;rw[m.out,hE];rfl
    clear m HH;go_wp2_with fail
    go_region
    go_wp2;exact⟨HC.out _ j.out P.out D.out,by dsimp only[intOf];omega⟩
   |true=>
    by_cases U:T.size<=8192
    ·have d2:decide ((T.size:Int)<=8192)=true:=by simp;omega
     have hh:=hIx (HH.out N.drew T j.out P.out U);have d:Hid (hit=(f T != r.nt)):=by unfold Hid;rw[m.out,hE,Qu U];rfl
     clear m HH;go_wp2_with fail
     go_region_held3 (λw'=>w'.cell? ⟨g,4,none⟩=some (.bool r.nt))
      (first|exact c4|exact hf|go_keep|fail "keep")
      (first|(go_at_call 117;(with_reducible refine hh.out.mono ?_);rintro e w9 ⟨rfl,O,h6⟩;have hf:=O.cells.2;have H:=hIx O;have y:=hIx h6;clear O h6)|fail "arm")
     generalize f T=v1 at *;generalize r.nt=v2 at *;cases v1 <;> cases v2
     ·have D:Hid (hit=false):=d.out
      clear d;go_wp2;exact⟨HC.out _ (j.out.trans y.out) (.inr H.out) D.out,by dsimp only[intOf];omega⟩
     ·have HA:Hid (l.any i=true):=HQ.out.1 d.out
      clear d;go_wp2;go_ret;exact⟨by rw[HA.out];rfl,.inr H.out,j.out.trans y.out⟩
     ·have HA:Hid (l.any i=true):=HQ.out.1 d.out
      clear d;go_wp2;go_ret;exact⟨by rw[HA.out];rfl,.inr H.out,j.out.trans y.out⟩
     ·have D:Hid (hit=false):=d.out
      clear d;go_wp2;exact⟨HC.out _ (j.out.trans y.out) (.inr H.out) D.out,by dsimp only[intOf];omega⟩
    ·have d2:decide ((T.size:Int)<=8192)=false:=by simp;omega
     have D:Hid (hit=false):=by unfold Hid;rw[m.out,Qs U,Bool.and_false,Bool.false_and]
     clear m HH;go_wp2_with fail
     go_region
     go_wp2;exact⟨HC.out _ j.out P.out D.out,by dsimp only[intOf];omega⟩
  ·obtain rfl:k=l.length:=by omega
   have d1:decide ((l.length:Int)<(l.length:Int))=false:=by simp
   have D:Hid (l.any i=false):=by have:=C.out;rw[QV]at this;exact this
   go_wp2;go_ret;exact⟨by rw[D.out];rfl,G,n⟩
theorem zca{H:Type}:∀{l:List (DataW H)} {d:DataW H},d∈l->Rows.uptoBulk d<=Rows.uptoBulkAll l
 | [],_,h=>by cases h
 |x::r,d,h=>by
  rw[Rows.uptoBulkAll]
  rcases QJ.1 h with rfl|h
  ·omega
  ·have:=zca h;omega
theorem zwy{H:Type}(d:DataW H):1<=Rows.uptoBulk d:=by
 cases d with
 |lit x=>cases x <;> simp[Rows.uptoBulk]
 |_=>simp[Rows.uptoBulk]
theorem zkv{H:Type}:∀l:List (DataW H),l.length<=Rows.uptoBulkAll l
 | []=>by simp[Rows.uptoBulkAll]
 |x::r=>by
  have h1:=zwy x;have h2:=zkv r;rw[Rows.uptoBulkAll,Qo];omega
theorem zdk{H:Type}{l sp:List (DataW H)}:l.length+1<=Rows.uptoBulk (.slice l sp):=by
 have:=zkv l;rw[Rows.uptoBulk];omega
structure zhF where
 k:Int
 m:Int
 n:ByteArray
structure zbV where
 k:Int
 n:Int
structure zai where
 id:Int
 phase:Int
 vars:List zhF
 pipe:List Int
 no:Bool
 op:Int
 arg:ByteArray
 acts:List zbV
 chain:Bool
structure zd4 where
 most:Int
 status:Int
 list:List zai
def zk7(b:UInt8):Bool:=(decide (97<=b.toNat)&&decide (b.toNat<=122))||(decide (48<=b.toNat)&&decide (b.toNat<=57))||b==45||b==95
def zft(l:List UInt8):Bool:=l.all zk7&&decide (1<=l.length)&&decide (l.length<=20)
def ofK(k:Int):Bool:=k==6||k==8||k==10
def varC(v:zhF):Int:=if v.k<1\/12<v.k\/v.m<0\/2<v.m\/(v.n.data.toList≠[]/\(ofK v.k&&zft v.n.data.toList)=false)then 1 else 0
def loA(k:Int):Int:=if k=2 then 400 else if k=3\/k=4 then 1 else 0
def hiA(k:Int):Int:=if k=2 then 599 else if k=3 then 1000 else if k=4 then 9 else 0
def actC(a:zbV):Int:=if a.k<1\/5<a.k\/a.n<loA a.k\/hiA a.k<a.n then 1 else 0
def zaR{a:Type}(f:a->Int):List a->Int
 | []=>0
 |x::r=>if f x≠0 then f x else zaR f r
theorem ziv{b:Type}{f:b->Int}:∀{l:List b},zaR f l=0->∀x∈l,f x=0
 | [],_,x,a=>by cases a
 |y::r,h,x,a=>by
  unfold zaR at h
  split at h
  ·contradiction
  ·rename_i c
   rcases QJ.1 a with rfl|a
   ·simpa using c
   ·exact ziv h x a
def oneC(argC:Int->ByteArray->Int)(x:zai):Int:=
 if 8<x.vars.length\/6<x.acts.length then 2 else if x.vars.length=0\/x.acts.length=0 then 1 else if zaR varC x.vars≠0 then zaR varC x.vars else
 if zbt x.pipe≠0 then zbt x.pipe else if x.op<1\/12<x.op then 1 else if argC x.op x.arg≠0 then argC x.op x.arg else zaR actC x.acts
def goC(argC:Int->ByteArray->Int):List zai->List zai->Int
 |_,[]=>0
 |done,x::r=>if x.id<1\/9999<x.id\/(x.phase≠1/\x.phase≠2)then 1 else if done.any (λy=>y.id==x.id)=true then 9 else if oneC argC x≠0 then oneC argC x else goC argC (done++[x]) r
def zaE:List zai->Int
 | []=>0
 | [x]=>if x.chain=true then 1 else 0
 |x::y::r=>if x.chain=true/\y.phase≠x.phase then 1 else zaE (y::r)
def zaZ(argC:Int->ByteArray->Int)(r:zd4):Int:=
 if r.most<1\/1000000<r.most\/r.status<400\/599<r.status then 1 else if 40<r.list.length then 2 else if goC argC [] r.list≠0 then goC argC [] r.list else zaE r.list
structure zy7(x:zai):Prop where
 id1:1<=x.id
 id2:x.id<=9999
 ph1:1<=x.phase
 ph2:x.phase<=2
 vars:∀v∈x.vars,varC v=0
 some:x.vars≠[]
 pipe:zbt x.pipe=0
 op1:1<=x.op
 op2:x.op<=12
 acts:∀a∈x.acts,actC a=0
 one:x.acts≠[]
theorem zyG{argC:Int->ByteArray->Int}{x:zai}(h:oneC argC x=0)(h1:¬(x.id<1\/9999<x.id\/(x.phase≠1/\x.phase≠2))):zy7 x:=by
 unfold oneC at h
 split at h
 ·cases h
 split at h
 ·cases h
 rename_i a
 split at h
 ·contradiction
 rename_i c
 split at h
 ·contradiction
 rename_i b
 split at h
 ·cases h
 rename_i d
 split at h
 ·contradiction
 exact⟨by omega,by omega,by omega,by omega,ziv (by simpa using c),λe=>a (.inl (by rw[e];rfl)),by simpa using b,by omega,by omega,ziv h,λe=>a (.inr (by rw[e];rfl))⟩
theorem zxp{argC:Int->ByteArray->Int}:∀(l done:List zai),goC argC done l=0->∀x∈l,zy7 x
 | [],_,_,x,a=>by cases a
 |y::r,done,h,x,a=>by
  unfold goC at h
  split at h
  ·cases h
  rename_i h1
  split at h
  ·cases h
  split at h
  ·contradiction
  rename_i h2
  rcases QJ.1 a with rfl|a
  ·exact zyG (by simpa using h2) h1
  ·exact zxp r _ h x a
theorem zec{argC:Int->ByteArray->Int}{r:zd4}(h:zaZ argC r=0):(1<=r.most/\r.most<=1000000/\400<=r.status/\r.status<=599)/\∀x∈r.list,zy7 x:=by
 unfold zaZ at h
 split at h
 ·cases h
 rename_i h1
 split at h
 ·cases h
 split at h
 ·contradiction
 rename_i h2;exact⟨by omega,zxp _ _ (by simpa using h2)⟩
section
open Go.ChangeShapes Go.WideShapes Go.Deep
def zcj(v:zhF):List Value:=[.int .i64 v.k,.int .i64 v.m,.string v.n]
def za5(a:zbV):List Value:=[.int .i64 a.k,.int .i64 a.n]
structure RuM where
 r:zai
 vA:Option Addr
 vc:Nat
 pA:Option Addr
 pc:Nat
 aA:Option Addr
 ac:Nat
def zag(x:RuM):List Value:=[.int .i64 x.r.id,.int .i64 x.r.phase,.slice x.vA x.r.vars.length x.vc,.slice x.pA x.r.pipe.length x.pc,.bool x.r.no,.int .i64 x.r.op,.string x.r.arg,.slice x.aA x.r.acts.length x.ac,.bool x.r.chain]
structure RuIn(w:World)(B:Nat)(x:RuM):Prop where
 vars:Sl w B 3 x.vA x.r.vars.length (x.r.vars.flatMap zcj)
 pipe:Sl w B 1 x.pA x.r.pipe.length (x.r.pipe.map (Value.int .i64))
 acts:Sl w B 2 x.aA x.r.acts.length (x.r.acts.flatMap za5)
theorem RuIn.keep{w w':World}{B b:Nat}{x:RuM}(h:RuIn w B x)(hb:Below B w w')(a:B<=b):RuIn w' b x:=⟨(h.vars.below hb).more a,(h.pipe.below hb).more a,(h.acts.below hb).more a⟩
structure ze7(x:zai):Prop where
 vars:x.vars.length<=1048576
 names:∀v∈x.vars,v.n.size<=1048576
 pipe:x.pipe.length<=1048576
 arg:x.arg.size<=1048576
 acts:x.acts.length<=1048576
def zzX{H:Type}(f:zhF):DataW H:=.agg [.lit (.int .i64 f.k),.lit (.int .i64 f.m),.lit (.string f.n.data.toList)]
def zzC{H:Type}(f:zbV):DataW H:=.agg [.lit (.int .i64 f.k),.lit (.int .i64 f.n)]
def zz8{H:Type}(z:Int):DataW H:=.lit (.int .i64 z)
section
variable {H:Type} {enc:TypeId × Value->H} {P:Program} {w:World} {base:Nat} {spare:Nat->Bool} {held:Bool}
theorem znh{t:TypeId}{g k u A z q r j d:Field}{b:Nat}{cs:List Value}{x:DataW H × List MemPlace}(C:P.underlying t=some (.struct #[g,k,u,A,z,q,r,j,d]))(h:DataW.trod enc P w base spare held b t cs=some x):
 ∃(y:Fin 9->DataW H × List MemPlace) (n:Nat),x.1=.agg [(y 0).1,(y 1).1,(y 2).1,(y 3).1,(y 4).1,(y 5).1,(y 6).1,(y 7).1,(y 8).1]/\cs.length=P.cellsOf t/\
  ∀(i:Fin 9) (f:Field),[g,k,u,A,z,q,r,j,d][i.val]? = some f->DataW.trod enc P w base spare held n f.type ((cs.drop f.offset).take (P.cellsOf f.type))=some (y i):=by
 obtain⟨E,n,_,rfl,hl,a,D⟩:=DataW.trod_struct C h
 match E,a with
 | [v,e,B,l,s,o,p,c,m],_=>
  refine⟨λi=>[v,e,B,l,s,o,p,c,m][i.val]'(i.isLt),n,rfl,hl,λi f F=>?_⟩;have:=D i.val f (by simpa using F);rw[Qc (show i.val<[v,e,B,l,s,o,p,c,m].length from i.isLt)]at this
  simpa using this
end
theorem zqU{k:Type}{l:List k}(h:l.length=9):∃a b c d e f g i j,l=[a,b,c,d,e,f,g,i,j]:=by
 match l,h with
 | [a,b,c,d,e,f,g,i,j],_=>exact⟨a,b,c,d,e,f,g,i,j,rfl⟩
theorem zoh{d:Type}{l:List d}(h:l.length=3):∃a b c,l=[a,b,c]:=by
 match l,h with
 | [a,b,c],_=>exact⟨a,b,c,rfl⟩
theorem zuE{c:Type}{l:List c}(h:l.length=2):∃a b,l=[a,b]:=by
 match l,h with
 | [a,b],_=>exact⟨a,b,rfl⟩
theorem zhl:prog.cellsOf 3=1:=by kernel_rfl
theorem zrJ:prog.cellsOf 4=1:=by kernel_rfl
theorem zpP:prog.cellsOf 9=1:=by kernel_rfl
theorem zpD:prog.cellsOf 55=3:=by kernel_rfl
theorem zpm:prog.cellsOf 44=2:=by kernel_rfl
theorem zm0:prog.cellsOf 42=9:=by kernel_rfl
theorem zq1:prog.cellsOf 24=3:=by kernel_rfl
theorem zsi:prog.cellsOf 39=1:=by kernel_rfl
theorem zuI:prog.cellsOf 40=1:=by kernel_rfl
theorem ztO:prog.cellsOf 31=1:=by kernel_rfl
theorem zmY{H:Type}{l sp:List (DataW H)}{d:DataW H}(h:d∈l)(hb:Rows.uptoBulk (.slice l sp)<=1048576):Rows.uptoBulk d<=1048576:=by
 have:=zca h;rw[Rows.uptoBulk]at hb;omega
theorem zdL{H:Type}{l:List (DataW H)}{d:DataW H}(h:d∈l)(hb:Rows.uptoBulk (.agg l)<=1048576):Rows.uptoBulk d<=1048576:=by
 have:=zca h;rw[Rows.uptoBulk]at hb;omega
theorem zpV{H:Type}{s:ByteArray}(hb:Rows.uptoBulk (.lit (.string s.data.toList):DataW H)<=1048576):s.size<=1048576:=by
 simp only[Rows.uptoBulk,Zi]at hb;have:s.data.size=s.size:=rfl;omega
section
variable {H:Type} {enc:TypeId × Value->H} {w:World} {base:Nat} {spare:Nat->Bool} {held:Bool} {fuel:Nat} {cs:List Value} {x:DataW H × List MemPlace}
theorem zoP(h:DataW.trod enc prog w base spare held fuel 39 cs=some x):
 ∃(A:Option Addr) (c:Nat) (l:List zhF),cs=[.slice A l.length c]/\Sl w w.heap.size 3 A l.length (l.flatMap zcj)/\(Rows.uptoBulk x.1<=1048576->l.length<=1048576/\∀v∈l,v.n.size<=1048576):=by
 obtain⟨A,len,c,l,h1,h2,_,_,_,B,b⟩:=zej 3 zcj zzX (λ_=>True) underlying39 zpD (λ_=>rfl)
  (λn r y t=>by
   obtain⟨F,E,G,D,z,hl,i,j,g⟩:=trod_struct3 underlying55 t;rw[zpD]at hl;obtain⟨c0,c1,c2,rfl⟩:=zoh hl;rw[zhl]at i j;rw[zpP]at g;obtain⟨q,a,p,_⟩:=ZQ underlying3 i;obtain⟨o,e,C,_⟩:=ZQ underlying3 j;obtain⟨s,d,u,_⟩:=DataW.trod_string underlying9 g;injection a with a _
   injection e with e _
   injection d with d _
   subst a;subst e;subst d;subst z;subst p;subst C;subst u
   exact⟨⟨q,o,s⟩,rfl,rfl,trivial⟩) h
 subst h2;refine⟨A,c,l,h1,B,λhb=>?_⟩
 rcases b with ⟨_,rfl⟩|⟨sp,b⟩
 ·exact⟨Qm _,λv f=>by cases f⟩
 ·rw[b]at hb
  have:=zdk (l:=(l.map zzX:List (DataW H))) (sp:=sp);rw[Qh]at this;exact⟨by omega,λv f=>zpV (zdL (l:=[.lit (.int .i64 v.k),.lit (.int .i64 v.m),.lit (.string v.n.data.toList)]) (by simp) (zmY (QO.2 ⟨v,f,rfl⟩) hb))⟩
theorem znG(h:DataW.trod enc prog w base spare held fuel 40 cs=some x):
 ∃(A:Option Addr) (c:Nat) (l:List zbV),cs=[.slice A l.length c]/\Sl w w.heap.size 2 A l.length (l.flatMap za5)/\(Rows.uptoBulk x.1<=1048576->l.length<=1048576):=by
 obtain⟨A,len,c,l,h1,h2,_,_,_,p,b⟩:=zej 2 za5 zzC (λ_=>True) underlying40 zpm (λ_=>rfl)
  (λn k y m=>by
   obtain⟨t,s,r,o,hl,e,f⟩:=trod_struct2 underlying44 m;rw[zpm]at hl;obtain⟨c0,c1,rfl⟩:=zuE hl;rw[zhl]at e f;obtain⟨j,a,i,_⟩:=ZQ underlying3 e;obtain⟨g,d,q,_⟩:=ZQ underlying3 f;injection a with a _
   injection d with d _
   subst a;subst d;subst o;subst i;subst q
   exact⟨⟨j,g⟩,rfl,rfl,trivial⟩) h
 subst h2;refine⟨A,c,l,h1,p,λhb=>?_⟩
 rcases b with ⟨_,rfl⟩|⟨sp,b⟩
 ·exact Qm _
 ·rw[b]at hb
  have:=zdk (l:=(l.map zzC:List (DataW H))) (sp:=sp);rw[Qh]at this;omega
theorem zoC(h:DataW.trod enc prog w base spare held fuel 31 cs=some x):
 ∃(A:Option Addr) (c:Nat) (l:List Int),cs=[.slice A l.length c]/\Sl w w.heap.size 1 A l.length (l.map (Value.int .i64))/\(Rows.uptoBulk x.1<=1048576->l.length<=1048576):=by
 obtain⟨A,len,c,l,h1,h2,_,_,_,d,b⟩:=zej 1 (λz:Int=>[Value.int .i64 z]) zz8 (λ_=>True) underlying31 zhl (λ_=>rfl)
  (λn f y g=>by
   obtain⟨k,e,hy1,_⟩:=ZQ underlying3 g;exact⟨k,e,by rw[hy1];rfl,trivial⟩) h
 subst h2;refine⟨A,c,l,h1,?_,λhb=>?_⟩
 ·have:∀l:List Int,l.flatMap (λz:Int=>[Value.int .i64 z])=l.map (Value.int .i64):=λl=>by
   induction l with
   |nil=>rfl
   |cons a r ih=>rw[QM,ih];rfl
  rw[this]at d;exact d
 ·rcases b with ⟨_,rfl⟩|⟨sp,b⟩
  ·exact Qm _
  ·rw[b]at hb
   have:=zdk (l:=(l.map zz8:List (DataW H))) (sp:=sp);rw[Qh]at this;omega
end
structure RuD(H:Type) where
 m:RuM
 dat:DataW H
def zAc{H:Type}(w:World)(a:RuD H):Prop:=RuIn w w.heap.size a.m/\(Rows.uptoBulk a.dat<=1048576->ze7 a.m.r)
section
variable {H:Type} {enc:TypeId × Value->H} {w:World} {base:Nat} {spare:Nat->Bool} {held:Bool} {fuel:Nat} {cs:List Value} {x:DataW H × List MemPlace}
theorem zoH(h:DataW.trod enc prog w base spare held fuel 42 cs=some x):∃a:RuD H,cs=zag a.m/\x.1=a.dat/\zAc w a:=by
 obtain⟨y,n,hx,hl,b⟩:=znh underlying42 h;rw[zm0]at hl;obtain⟨c0,c1,c2,c3,c4,c5,c6,c7,Q,rfl⟩:=zqU hl;have f:=b 0 _ rfl;have k:=b 1 _ rfl;have e:=b 2 _ rfl;have o:=b 3 _ rfl;have j:=b 4 _ rfl;have l:=b 5 _ rfl;have c:=b 6 _ rfl;have g:=b 7 _ rfl;have i:=b 8 _ rfl;dsimp only at f k e o j l c g i;rw[zhl]at f k l;rw[zsi]at e;rw[ztO]at o;rw[zrJ]at j i;rw[zpP]at c;rw[zuI]at g;obtain⟨t,K,_,_⟩:=ZQ underlying3 f;obtain⟨p,e1,_,_⟩:=ZQ underlying3 k;obtain⟨G,I,J,e2,Y,V⟩:=zoP e;obtain⟨F,z,B,e3,s3,z3⟩:=zoC o;obtain⟨u,e4,_⟩:=DataW.trod_bool underlying4 j;obtain⟨A,L,_,_⟩:=ZQ underlying3 l;obtain⟨C,X,x6,_⟩:=DataW.trod_string underlying9 c;obtain⟨v,q,D,S,U,P⟩:=znG g;obtain⟨s,e8,_⟩:=DataW.trod_bool underlying4 i;have N:c0=.int .i64 t:=by injection K
 have Z:c1=.int .i64 p:=by injection e1
 have q2:c2=.slice G J.length I:=by injection e2
 have q3:c3=.slice F B.length z:=by injection e3
 have q4:c4=.bool u:=by injection e4
 have q5:c5=.int .i64 A:=by injection L
 have W:c6=.string C:=by injection X
 have O:c7=.slice v D.length q:=by injection S
 have q8:Q=.bool s:=by injection e8
 subst N;subst Z;subst q2;subst q3;subst q4;subst q5;subst W;subst O;subst q8
 refine⟨⟨⟨⟨t,p,J,B,u,A,C,D,s⟩,G,I,F,z,v,q⟩,x.1⟩,rfl,rfl,⟨Y,s3,U⟩,λhb=>?_⟩;dsimp only at hb;rw[hx]at hb;have E:=V (zdL (d:=(y 2).1) (by simp) hb);have T:=z3 (zdL (d:=(y 3).1) (by simp) hb);have r:=zdL (d:=(y 6).1) (by simp) hb;have b7:=P (zdL (d:=(y 7).1) (by simp) hb);rw[x6]at r;exact⟨E.1,E.2,T,zpV r,b7⟩
end
structure RuArg where
 most:Int
 status:Int
 A:Option Addr
 c:Nat
 l:List RuM
def RuArg.set(a:RuArg):zd4:=⟨a.most,a.status,a.l.map RuM.r⟩
def RuArg.value(a:RuArg):Value:=.agg #[.int .i64 a.most,.int .i64 a.status,.slice a.A a.l.length a.c]
structure RuLies(W:World)(B:Nat)(a:RuArg):Prop where
 sl:Sl W B 9 a.A a.l.length (a.l.flatMap zag)
 all:∀x∈a.l,RuIn W B x
 cap:a.l.length<=a.c
theorem RuLies.keep{w w':World}{B b:Nat}{a:RuArg}(h:RuLies w B a)(hb:Below B w w')(c:B<=b):RuLies w' b a:=⟨(h.sl.below hb).more c,λx d=>(h.all x d).keep hb c,h.cap⟩
structure zfr(W:World)(v:Value)(a:RuArg):Prop where
 val:v=a.value
 lies:RuLies W W.heap.size a
structure zcx(a:RuArg):Prop where
 len:a.l.length<=1048576
 all:∀x∈a.l,ze7 x.r
def zoZ{H:Type}(a:RuArg)(d:DataW H):Prop:=Rows.uptoBulk d<=1048576->zcx a
theorem zgI{H:Type}{a:RuArg}{d:DataW H}(h:zoZ a d)(hb:Rows.uptoBulk d<=1048576):zcx a:=h hb
theorem zf1{H:Type}{enc:TypeId × Value->H}{w:World}{base:Nat}{e:Nat->Bool}{i:Bool}{v:Value}{d:DataW H}{p:List MemPlace}{r:Reach}{D:Nat}
 (O:Value.okWide prog w r D 24 v) (B:DataW.Trod enc prog w base e i 24 v d p):∃a,zfr w v a/\zoZ a d:=by
 obtain⟨P,G,K,T,S,t,n,rfl,rfl,rfl,E,I,C⟩:=Joins.open_agg3 underlying24 (by kernel_rfl) zq1 O B;obtain⟨q,u,_,_⟩:=ZQ underlying3 E;obtain⟨o,N,_,_⟩:=ZQ underlying3 I;obtain⟨A,len,c,l,h1,h2,j,_,s,L,h⟩:=zej 9 (λa:RuD H=>zag a.m) RuD.dat (zAc w) underlying22 zm0 (λ_=>rfl) (λn J y f=>zoH f) C;have z:P=.int .i64 q:=by injection u
 have F:G=.int .i64 o:=by injection N
 subst h2;have Q:K=.slice A l.length c:=by injection h1
 subst z;subst F;subst Q
 have g:l.flatMap (λa=>zag a.m)=(l.map RuD.m).flatMap zag:=by rw[List.flatMap_map]
 refine⟨⟨q,o,A,c,l.map RuD.m⟩,⟨by unfold RuArg.value;rw[Qh],⟨?_,?_,by show (l.map RuD.m).length<=c;rw[Qh];exact j⟩⟩,λhb=>⟨?_,?_⟩⟩
 ·show Sl w w.heap.size 9 A (l.map RuD.m).length ((l.map RuD.m).flatMap zag)
  rw[Qh,<-g];exact L
 ·intro x k
  obtain⟨y,f,rfl⟩:=QO.1 k;exact(s y f).1
 ·have b:=zdL (d:=t.1) (by simp) hb
  show (l.map RuD.m).length<=1048576
  rw[Qh]
  rcases h with ⟨_,rfl⟩|⟨sp,h⟩
  ·exact Qm _
  ·rw[h]at b
   have:=zdk (l:=(l.map RuD.dat)) (sp:=sp);rw[Qh]at this;omega
 ·intro x k
  obtain⟨y,f,rfl⟩:=QO.1 k;have b:=zdL (d:=t.1) (by simp) hb
  rcases h with ⟨_,rfl⟩|⟨sp,h⟩
  ·cases f
  ·rw[h]at b
   exact(s y f).2 (zmY (QO.2 ⟨y,f,rfl⟩) b)
end
