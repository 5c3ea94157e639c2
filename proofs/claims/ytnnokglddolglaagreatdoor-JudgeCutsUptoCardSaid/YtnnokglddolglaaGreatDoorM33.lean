/- Lemmas for the last texts. -/
import Derived.Test.YtnnokglddolglaaGreatDoorM32
set_option maxHeartbeats 1600000
set_option maxRecDepth 100000
namespace Go.Proofs.YtnnokglddolglaaGreatDoor
open Go.RowKit Go.Proofs.Tryz
def zfw(b:UInt8):Bool:=!(decide (b.toNat<33)||decide (126<b.toNat))
def zdi(l:jE):Bool:=l.all zfw
def valB(b:UInt8):Bool:=!(decide (b.toNat<32)&&!(b.toNat==9)||b.toNat==127)
def zdT(l:jE):Bool:=l.all valB&&(zaG l==l)
def zca(f:zal):Int:=
 if (zdm f.1.data.toList&&zdT f.2.data.toList)=false then 4 else if 1000<f.1.size+f.2.size then 5 else 0
def zbm:List zal->Int
 | []=>0
 |f::r=>if zca f=0 then zbm r else zca f
structure za3 where
 m:ByteArray
 t:ByteArray
 fs:List zal
def ze8(m t:jE):Bool:=zdm m&&decide (m.length<=20)&&!t.isEmpty&&zdi t
def zag(h:za3):Int:=
 if ze8 h.m.data.toList h.t.data.toList=false then 4 else if 1000<h.t.size\/30<h.fs.length then 5 else zbm h.fs
def verL:jE:=[72,84,84,80,47,49,46,49]
def zcX(f:zal):jE:=f.1.data.toList++58::32::f.2.data.toList
def zcA(h:za3):jE:=h.m.data.toList++32::h.t.data.toList++32::verL
def zas(h:za3):jE:=zcA h++[13,10]++h.fs.flatMap (λf=>zcX f++[13,10])++[13,10]
def zb6(x:jE):Bool:=!x.isEmpty&&(!x.contains 13&&!x.contains 10)
def endL:jE:=[13,10,13,10]
def zc5(l:jE):Option (List jE):=
 if Lib.hasSuffix l endL=true then (if (spl2 (l.take (l.length-4))).all zb6=true then some (spl2 (l.take (l.length-4)))else none)else none
def cutF(x:jE):zal:=(bs (Lib.cut x [58]).1,bs (zaG (Lib.cut x [58]).2.1))
def zjg(x:jE):Bool:=(Lib.cut x [58]).2.2
def zc6(d:List jE):Except Int za3:=
 match splL 32 (d.headD [])with
 | [a,b,c]=>if c=verL then (if d.tail.all zjg=true then (if zag ⟨bs a,bs b,d.tail.map cutF⟩=0 then .ok ⟨bs a,bs b,d.tail.map cutF⟩else .error (zag ⟨bs a,bs b,d.tail.map cutF⟩))else .error 4)else .error 4
 |_=>.error 4
def zbq(l:jE):Except Int za3:=
 if 4096<l.length then .error 5 else match zc5 l with
 |none=>.error 4
 |some a=>zc6 a
theorem zmh(f:zal):zca f=0\/zca f=4\/zca f=5:=by
 unfold zca
 split
 ·exact .inr (.inl rfl)
 ·split
  ·exact .inr (.inr rfl)
  ·exact .inl rfl
theorem zfd:∀l:List zal,zbm l=0\/zbm l=4\/zbm l=5
 | []=>.inl rfl
 |f::r=>by
  unfold zbm
  split
  ·exact zfd r
  ·exact zmh f
theorem zlU(h:za3):zag h=0\/zag h=4\/zag h=5:=by
 unfold zag
 split
 ·exact .inr (.inl rfl)
 ·split
  ·exact .inr (.inr rfl)
  ·exact zfd _
theorem zkg:∀{l:List zal},zbm l=0->∀f∈l,zca f=0
 | [],_,f,h=>by cases h
 |x::r,h,f,a=>by
  unfold zbm at h
  split at h
  ·rename_i h1
   rcases QI.1 a with e|e
   ·subst e;exact h1
   ·exact zkg h f e
  ·rename_i h1;exact absurd h h1
structure zh3(h:za3):Prop where
 tok:zdm h.m.data.toList=true
 short:h.m.size<=20
 some_:h.t.data.toList≠[]
 plain:zdi h.t.data.toList=true
 line:h.t.size<=1000
 few:h.fs.length<=30
 names:∀f∈h.fs,zdm f.1.data.toList=true
 vals:∀f∈h.fs,zdT f.2.data.toList=true
 lens:∀f∈h.fs,f.1.size+f.2.size<=1000
theorem zho{f:zal}(h:zca f=0):zdm f.1.data.toList=true/\zdT f.2.data.toList=true/\f.1.size+f.2.size<=1000:=by
 unfold zca at h
 split at h
 ·cases h
 ·rename_i h1
  split at h
  ·cases h
  ·rename_i h2
   rw[Bool.not_eq_false,QU]at h1;exact⟨h1.1,h1.2,by omega⟩
theorem zdF{h:za3}(a:zag h=0):zh3 h:=by
 unfold zag at a
 split at a
 ·cases a
 ·rename_i h1
  split at a
  ·cases a
  ·rename_i h2
   unfold ze8 at h1;rw[Bool.not_eq_false]at h1;simp only[QU,QY]at h1;obtain⟨⟨⟨e,i⟩,g⟩,d⟩:=h1;have hl:h.m.data.toList.length=h.m.size:=by simp
   have c:=zkg a;exact⟨e,by omega,by simpa using g,d,by omega,by omega,λf b=>(zho (c f b)).1,λf b=>(zho (c f b)).2.1,λf b=>(zho (c f b)).2.2⟩
theorem zeq(b:UInt8)(h:tokB b=true):b≠32/\b≠13/\b≠10/\b≠58/\b≠9/\b≠34:=by
 have:=zcq (p:=λb=>!tokB b||decide (b≠32/\b≠13/\b≠10/\b≠58/\b≠9/\b≠34)) (by decide+kernel) b;rw[h]at this
 simpa using this
theorem zeh(b:UInt8)(h:zfw b=true):b≠32/\b≠13/\b≠10:=by
 have:=zcq (p:=λb=>!zfw b||decide (b≠32/\b≠13/\b≠10)) (by decide+kernel) b;rw[h]at this
 simpa using this
theorem zjL(b:UInt8)(h:valB b=true):b≠13/\b≠10:=by
 have:=zcq (p:=λb=>!valB b||decide (b≠13/\b≠10)) (by decide+kernel) b;rw[h]at this
 simpa using this
theorem zfn{l:jE}(h:zdm l=true):(32:UInt8) ∉ l/\(13:UInt8) ∉ l/\(10:UInt8) ∉ l/\(58:UInt8) ∉ l/\l≠[]:=by
 unfold zdm at h;simp only[QU,Zl]at h;refine⟨λe=>(zeq _ (h.2 _ e)).1 rfl,λe=>(zeq _ (h.2 _ e)).2.1 rfl,λe=>(zeq _ (h.2 _ e)).2.2.1 rfl,λe=>(zeq _ (h.2 _ e)).2.2.2.1 rfl,λe=>by rw[e]at h;simp at h⟩
theorem zj3{l:jE}(h:zdi l=true):(32:UInt8) ∉ l/\(13:UInt8) ∉ l/\(10:UInt8) ∉ l:=by
 unfold zdi at h;rw[Zl]at h;exact⟨λe=>(zeh _ (h _ e)).1 rfl,λe=>(zeh _ (h _ e)).2.1 rfl,λe=>(zeh _ (h _ e)).2.2 rfl⟩
theorem zfS{l:jE}(h:zdT l=true):(13:UInt8) ∉ l/\(10:UInt8) ∉ l/\zaG l=l:=by
 unfold zdT at h;simp only[QU,Zl,Zo]at h;exact⟨λe=>(zjL _ (h.1 _ e)).1 rfl,λe=>(zjL _ (h.1 _ e)).2 rfl,h.2⟩
theorem zgR{l:jE}{b:UInt8}(h:b ∉ l):l.contains b=false:=by
 cases e:l.contains b with
 |false=>rfl
 |true=>exact absurd (List.contains_iff_mem.1 e) h
theorem zrL{x:jE}(a:x≠[])(h1:(13:UInt8) ∉ x)(h2:(10:UInt8) ∉ x):zb6 x=true:=by
 unfold zb6;rw[zgR h1,zgR h2];cases x with
 |nil=>exact absurd rfl a
 |cons _ _=>rfl
theorem zmg{x:jE}(h:zb6 x=true):x≠[]/\(13:UInt8) ∉ x/\(10:UInt8) ∉ x:=by
 unfold zb6 at h;simp only[QU,Bool.not_eq_true']at h;refine⟨λe=>by rw[e]at h;simp at h,λe=>?_,λe=>?_⟩
 ·have:=List.contains_iff_mem.2 e;rw[h.2.1]at this;cases this
 ·have:=List.contains_iff_mem.2 e;rw[h.2.2]at this;cases this
theorem zkh:∀(x:jE) (a:List jE),(∀y∈x::a,(13:UInt8) ∉ y)->spl2 (x++a.flatMap λy=>[13,10]++y)=x::a
 |x,[],h=>by rw[Xa,QE];exact zfM x (h x (by simp))
 |x,y::a,h=>by
  have ih:=zkh y a (λz b=>h z (by simp only[QI]at b ⊢;exact .inr b));have e:x++(y::a).flatMap (λy=>[13,10]++y)=x++13::10::(y++a.flatMap λy=>[13,10]++y):=by simp
  rw[e,zbP,ih,zfM x (h x (by simp))]
  rfl
theorem zjw:∀(x:jE) (a:List jE),x++[13,10]++a.flatMap (λy=>y++[13,10])=(x++a.flatMap λy=>[13,10]++y)++[13,10]
 |x,[]=>by simp
 |x,y::a=>by
  have ih:=zjw y a;rw[QH,QH];have b:x++[13,10]++(y++[13,10]++a.flatMap λy=>y++[13,10])=x++[13,10]++(y++[13,10]++a.flatMap (λy=>y++[13,10])):=rfl;rw[b,ih];simp
theorem znI(h:za3):zas h=(zcA h++(h.fs.map zcX).flatMap λy=>[13,10]++y)++endL:=by
 unfold zas;have e:h.fs.flatMap (λf=>zcX f++[13,10])=(h.fs.map zcX).flatMap λy=>y++[13,10]:=by rw[List.flatMap_map]
 rw[e,zjw,QG]
 rfl
theorem zqW(a:jE):Lib.hasSuffix (a++endL) endL=true:=by
 unfold Lib.hasSuffix;rw[XD];exact⟨a,rfl⟩
theorem zow(a:jE):(a++endL).take ((a++endL).length-4)=a:=by
 rw[Qa,show endL.length=4 from rfl,Nat.add_sub_cancel,XO]
theorem zsr(a b c:jE)(h1:(32:UInt8) ∉ a)(h2:(32:UInt8) ∉ b)(f:(32:UInt8) ∉ c):splL 32 (a++32::b++32::c)=[a,b,c]:=by
 have d:∀w:jE,(32:UInt8) ∉ w->splL 32 w=[w]:=λw=>by
  induction w with
  |nil=>intro _;rfl
  |cons b w ih=>intro h;rw[splL,Qe (λe=>h (by simp[e])),ih (λe=>h (by simp[e]))]
 rw[QG,ZQ,zh2,zh2,d a h1,d b h2,d c f]
 rfl
theorem zvU(c:UInt8):∀(a b:jE),c ∉ a->Lib.cut (a++c::b) [c]=(a,b,true):=by
 intro a b h
 have d:∀a:jE,c ∉ a->Lib.index (a++c::b) [c]=(a.length:Int):=by
  intro a
  induction a with
  |nil=>intro _;rw[Xu,Lib.index];simp[List.isPrefixOf]
  |cons x a ih=>
   intro h;have h1:=ih (λe=>h (by simp[e]));rw[ZQ,zfI x c _ (λe=>h (by simp[e])),h1,Qe (by rw[Zo];omega)];simp
 have h1:=d a h;unfold Lib.cut;rw[Qg (by omega),h1];simp
theorem zfs(l:jE):(zaG l).length<=l.length:=by
 unfold zaG zc0;rw[List.length_reverse];refine Ql (XR _).length_le ?_;rw[List.length_reverse];exact(XR _).length_le
theorem zqF(l:jE):zaG (32::l)=zaG l:=rfl
theorem zmZ{f:zal}(h1:(58:UInt8) ∉ f.1.data.toList)(h2:zaG f.2.data.toList=f.2.data.toList):zjg (zcX f)=true/\cutF (zcX f)=f:=by
 unfold zjg cutF zcX;rw[zvU 58 _ _ h1];refine⟨rfl,?_⟩;dsimp only;rw[zqF,h2,zc1,zc1]
theorem zik{h:za3}(r:zag h=0):zc5 (zas h)=some (zcA h::h.fs.map zcX):=by
 have d:=zdF r;obtain⟨_,n,o,_,_⟩:=zfn d.tok;obtain⟨_,l,m⟩:=zj3 d.plain;have i:(13:UInt8) ∉ verL:=by decide
 have j:(10:UInt8) ∉ verL:=by decide
 have k:(13:UInt8) ∉ zcA h:=by
  unfold zcA;simp only[QO,QI];rintro((h|h|h)|h|h)
  ·exact n h
  ·exact absurd h (by decide)
  ·exact l h
  ·exact absurd h (by decide)
  ·exact i h
 have g:(10:UInt8) ∉ zcA h:=by
  unfold zcA;simp only[QO,QI];rintro((h|h|h)|h|h)
  ·exact o h
  ·exact absurd h (by decide)
  ·exact m h
  ·exact absurd h (by decide)
  ·exact j h
 have hl:∀f∈h.fs,(13:UInt8) ∉ zcX f/\(10:UInt8) ∉ zcX f/\zcX f≠[]:=λf c=>by
  obtain⟨v,n2,n3,u,s⟩:=zfn (d.names f c);obtain⟨p,q,t⟩:=zfS (d.vals f c);unfold zcX;refine⟨?_,?_,by simp⟩
  ·simp only[QO,QI]
   rintro(h|h|h|h)
   ·exact n2 h
   ·exact absurd h (by decide)
   ·exact absurd h (by decide)
   ·exact p h
  ·simp only[QO,QI]
   rintro(h|h|h|h)
   ·exact n3 h
   ·exact absurd h (by decide)
   ·exact absurd h (by decide)
   ·exact q h
 have a:∀y∈zcA h::h.fs.map zcX,(13:UInt8) ∉ y/\(10:UInt8) ∉ y/\y≠[]:=λy b=>by
  rcases QI.1 b with e|e
  ·subst e;exact⟨k,g,by unfold zcA;simp⟩
  ·obtain⟨f,c,rfl⟩:=QR.1 e
   exact hl f c
 rw[znI];unfold zc5;rw[Qg (zqW _),zow,zkh _ _ (λy b=>(a y b).1),Qg];rw[Zl];exact λy b=>zrL (a y b).2.2 (a y b).1 (a y b).2.1
theorem zi6{h:za3}(d:zag h=0)(e:(zas h).length<=4096):zbq (zas h)=.ok h:=by
 have b:=zdF d;obtain⟨n,_⟩:=zfn b.tok;obtain⟨j,_⟩:=zj3 b.plain;have c:(32:UInt8) ∉ verL:=by decide
 unfold zbq;rw[Qe (by omega),zik d];dsimp only;unfold zc6;rw[List.headD_cons,show zcA h=h.m.data.toList++32::h.t.data.toList++32::verL from rfl,zsr _ _ _ n j c];dsimp only;rw[Qg rfl,List.tail_cons,Qg]
 ·have i:(h.fs.map zcX).map cutF=h.fs:=by
   rw[Xr]
   have:∀l:List zal,(∀f∈l,cutF (zcX f)=f)->l.map (cutF ∘ zcX)=l:=λl=>by
    induction l with
    |nil=>intro _;rfl
    |cons x l ih=>intro g;rw[QW,ih (λf a=>g f (by simp[a]))];show cutF (zcX x)::l=_;rw[g x (by simp)]
   exact this _ λf a=>(zmZ (zfn (b.names f a)).2.2.2.1 (zfS (b.vals f a)).2.2).2
  rw[i,zc1,zc1,Qg d]
 ·rw[Zl]
  intro y k;obtain⟨f,a,rfl⟩:=QR.1 k;exact(zmZ (zfn (b.names f a)).2.2.2.1 (zfS (b.vals f a)).2.2).1
theorem zsg{l:jE}(h:4096<l.length):zbq l=.error 5:=by unfold zbq;rw[Qg h]
theorem zpB{l:jE}{h:za3}(a:zbq l=.ok h):l.length<=4096/\zag h=0/\∃b,zc5 l=some b/\zc6 b=.ok h:=by
 unfold zbq at a
 split at a
 ·cases a
 ·rename_i h1
  split at a
  ·cases a
  ·rename_i b c
   refine⟨by omega,?_,b,c,a⟩;unfold zc6 at a
   split at a
   ·split at a
    ·split at a
     ·split at a
      ·rename_i d
       cases a;exact d
      ·cases a
     ·cases a
    ·cases a
   ·cases a
theorem zlH{l:jE}{e:Int}(a:zbq l=.error e):e=4\/e=5:=by
 unfold zbq at a
 split at a
 ·cases a;exact .inr rfl
 ·split at a
  ·cases a;exact .inl rfl
  ·unfold zc6 at a
   split at a
   ·split at a
    ·split at a
     ·split at a
      ·cases a
      ·rename_i b
       cases a;exact(zlU _).resolve_left b
     ·cases a;exact .inl rfl
    ·cases a;exact .inl rfl
   ·cases a;exact .inl rfl
theorem zjS{l:jE}{b:List jE}(h:zc5 l=some b):∃a,l=a++endL/\spl2 a=b/\b.all zb6=true:=by
 unfold zc5 at h
 split at h
 ·rename_i h1
  split at h
  ·rename_i h2
   cases h;obtain⟨a,c⟩:=(by unfold Lib.hasSuffix at h1;rw[XD]at h1;exact h1:endL <:+l)
   refine⟨a,c.symm,?_,h2⟩;rw[<-c,zow]
  ·cases h
 ·cases h
theorem zkY{a x:jE}(s:x≠[])(b:jE)(hb:a++endL++x=b++endL):(spl2 b).all zb6=false:=by
 have j:=Zi List.length hb;simp only[Qa,show endL.length=4 from rfl]at j
 have g:b=(a++endL++x).take (a.length+x.length):=by
  rw[hb,List.take_left' (by omega)]
 have p:0<x.length:=ZJ.2 s
 have f:∀y∈spl2 b,zb6 y=false->(spl2 b).all zb6=false:=λy i h=>by
  rw[List.all_eq_false];exact⟨y,i,by rw[h];decide⟩
 rcases(show x.length=1\/x.length=2\/x.length=3\/4<=x.length by omega)with h1|h1|h1|h1
 ·have e:b=a++[13]:=by
   rw[g,h1,QG,Z1,QF (by omega),show a.length+1-a.length=1 by omega];rfl
  have l:∃y∈spl2 (a++[13]),(13:UInt8)∈y:=by
   clear g hb e f j
   have o:∀(n:Nat) (a:jE),a.length<=n->∃y∈spl2 (a++[13]),(13:UInt8)∈y:=by
    intro n
    induction n with
    |zero=>intro a h;have:a=[]:=QA (by omega);subst this;exact⟨[13],by simp[spl2],by simp⟩
    |succ n ih=>
     intro a h
     match a with
     | []=>exact⟨[13],by simp[spl2],by simp⟩
     | [c]=>
      show ∃y∈spl2 (c::13::[]),_
      rw[spl2,Qe (λh=>absurd h.2 (by decide))];exact⟨[c,13],by simp[spl2,zjk],by simp⟩
     |c::d::r=>
      simp only[Qn]at h;show ∃y∈spl2 (c::d::(r++[13])),_
      rw[spl2]
      split
      ·obtain⟨y,i,k⟩:=ih r (by omega)
       exact⟨y,by simp[i],k⟩
      ·obtain⟨y,i,k⟩:=ih (d::r) (by simp only[Qn];omega)
       rw[ZQ]at i;cases m:spl2 (d::(r++[13]))with
       |nil=>exact absurd m (zhx _)
       |cons z q=>
        rw[m]at i
        rcases QI.1 i with e|e
        ·subst e;exact⟨c::y,by simp[zjk],by simp[k]⟩
        ·exact⟨y,by simp[zjk,e],k⟩
   exact o a.length a (Qc _)
  obtain⟨y,i,k⟩:=l;rw[<-e]at i;refine f y i ?_;cases m:zb6 y with
  |false=>rfl
  |true=>exact absurd k (zmg m).2.1
 ·have e:b=a++13::10::[]:=by
   rw[g,h1,QG,Z1,QF (by omega),show a.length+2-a.length=2 by omega];rfl
  refine f [] ?_ rfl;rw[e,zbP];simp[spl2]
 ·have e:b=a++13::10::[13]:=by
   rw[g,h1,QG,Z1,QF (by omega),show a.length+3-a.length=3 by omega];rfl
  refine f [13] ?_ (by decide);rw[e,zbP];simp[spl2]
 ·have e:b=a++13::10::(13::10::x.take (x.length-4)):=by
   rw[g,QG,Z1,QF (by omega),show a.length+x.length-a.length=x.length by omega,Z1,QF (by show 4<=x.length;exact h1)]
   rfl
  refine f [] ?_ rfl;rw[e,zbP,zkr];simp
def zkn(p:UInt8->Bool)(s:ByteArray)(i:Value):Prop:=∃k:Nat,k<=s.size/\i=jA k/\s.data.toList.all p=(s.data.toList.drop k).all p
theorem zrc{p:UInt8->Bool}{s:ByteArray}{k:Nat}(h:s.size<=k):(s.data.toList.drop k).all p=true:=by
 rw[QN (by simpa using h)];rfl
theorem zth(s:ByteArray)(w:World)(m:s.size<=maxLen):
 Calls prog 88 #[.string s] w λe w'=>e=jC (.bool (zdi s.data.toList))/\w'=w:=by
 unfold maxLen at m
 go_in
 go_wp2_with fail
 go_loop [6] (λi=>zkn zfw s i) (λi=>s.size-(intOf i).toNat)
 case atStart=>exact⟨0,Qm _,rfl,rfl⟩
 case round=>
  obtain⟨k,n,rfl,f⟩:=hrel;have b:=hIx f;clear f
  by_cases c:k<s.size
  ·have d:=hIx (zaH s k c)
   have g:=s[k].toNat_lt
   by_cases c1:s[k].toNat<33
   ·have a:Hid (zdi s.data.toList=false):=by unfold Hid zdi;rw[b.out,d.out,ZR];simp[zfw,c1]
    have j:decide ((s[k].toNat:Int)<33)=true:=Qu (by omega);clear c1;go_wp2;go_ret;exact⟨zaK a.out.symm,rfl⟩
   ·have j:decide ((s[k].toNat:Int)<33)=false:=Qq (by omega)
    by_cases c2:126<s[k].toNat
    ·have a:Hid (zdi s.data.toList=false):=by unfold Hid zdi;rw[b.out,d.out,ZR];simp[zfw,c2]
     have h:decide ((126:Int)<(s[k].toNat:Int))=true:=Qu (by omega);clear c1 c2;go_wp2;go_ret;exact⟨zaK a.out.symm,rfl⟩
    ·have h:decide ((126:Int)<(s[k].toNat:Int))=false:=Qq (by omega)
     have l:Hid (s.data.toList.all zfw=(s.data.toList.drop (k+1)).all zfw):=by unfold Hid;rw[b.out,d.out,ZR];simp[zfw,c1,c2]
     clear c1 c2;go_wp2_with fail
     go_round
     case rel=>exact⟨k+1,by omega,by go_num,l.out⟩
     case measure=>simp[intOf] <;> omega
  ·have a:Hid (zdi s.data.toList=true):=by unfold Hid zdi;rw[b.out,zrc (by omega)]
   obtain rfl:k=s.size:=by omega
   go_wp2;go_ret;exact⟨zaK a.out.symm,rfl⟩
theorem zsy(s:ByteArray)(w:World)(n:s.size<=maxLen):
 Calls prog 89 #[.string s] w λe w'=>e=jC (.bool (zdT s.data.toList))/\w'=w:=by
 have f:=n;unfold maxLen at n
 go_in
 go_wp2_with fail
 go_loop [7] (λi=>zkn valB s i) (λi=>s.size-(intOf i).toNat)
 case atStart=>exact⟨0,Qm _,rfl,rfl⟩
 case round=>
  obtain⟨k,t,rfl,m⟩:=hrel;have g:=hIx m;clear m
  by_cases d:k<s.size
  ·have o:=hIx (zaH s k d)
   have p:=s[k].toNat_lt;have b:Hid (valB s[k]=false->zdT s.data.toList=false):=λh=>by unfold zdT;rw[g.out,o.out,ZR,h];rfl
   have a:Hid (valB s[k]=true->s.data.toList.all valB=(s.data.toList.drop (k+1)).all valB):=λh=>by rw[g.out,o.out,ZR,h];rfl
   by_cases c1:s[k].toNat<32
   ·have r:decide ((s[k].toNat:Int)<32)=true:=Qu (by omega)
    by_cases c2:s[k].toNat=9
    ·have q:((s[k].toNat:Int) != 9)=false:=by rw[bne_eq_false_iff_eq];omega
     have l:((s[k].toNat:Int)==127)=false:=by rw[Qb];omega
     have j:=hIx (a.out (by unfold valB;simp[c2]));clear c1 c2;go_wp2_with fail
     go_round
     case rel=>exact⟨k+1,by omega,by go_num,j.out⟩
     case measure=>simp[intOf] <;> omega
    ·have q:((s[k].toNat:Int) != 9)=true:=by rw[Q7];omega
     have c:=hIx (b.out (by unfold valB;simp[c1,c2]));clear c1 c2;go_wp2;go_ret;exact⟨zaK c.out.symm,rfl⟩
   ·have r:decide ((s[k].toNat:Int)<32)=false:=Qq (by omega)
    by_cases c3:s[k].toNat=127
    ·have l:((s[k].toNat:Int)==127)=true:=by rw[Zo];omega
     have c:=hIx (b.out (by unfold valB;simp[c3]));clear c1 c3;go_wp2;go_ret;exact⟨zaK c.out.symm,rfl⟩
    ·have l:((s[k].toNat:Int)==127)=false:=by rw[Qb];omega
     have j:=hIx (a.out (by unfold valB;simp[c1,c3]));clear c1 c3;go_wp2_with fail
     go_round
     case rel=>exact⟨k+1,by omega,by go_num,j.out⟩
     case measure=>simp[intOf] <;> omega
  ·have c:Hid (zdT s.data.toList=(zaG s.data.toList==s.data.toList)):=by unfold Hid zdT;rw[g.out,zrc (by omega)];rfl
   obtain rfl:k=s.size:=by omega
   go_wp2_with (go_at_call 80;refine(zdE _ _ f).mono ?_;rintro e w' ⟨rfl,rfl⟩);go_ret;exact⟨zaK (by rw[c.out,QP]),rfl⟩
theorem zh0{s:ByteArray}{w:World}(a:s.size<=maxLen){b:Bool}(h:zdm s.data.toList=b):Calls prog 87 #[.string s] w λe w'=>e=jC (.bool b)/\w'=w:=by
 rw[<-h];exact ztF s w a
theorem zfk{s:ByteArray}{w:World}(a:s.size<=maxLen){b:Bool}(h:zdi s.data.toList=b):Calls prog 88 #[.string s] w λe w'=>e=jC (.bool b)/\w'=w:=by
 rw[<-h];exact zth s w a
theorem zl9{s:ByteArray}{w:World}(a:s.size<=maxLen){b:Bool}(h:zdT s.data.toList=b):Calls prog 89 #[.string s] w λe w'=>e=jC (.bool b)/\w'=w:=by
 rw[<-h];exact zsy s w a
def zpT(h:za3)(w:World)(i:Value)(wr:World):Prop:=
 ∃k:Nat,k<=h.fs.length/\i=jA k/\Hid (zbm h.fs=zbm (h.fs.drop k))/\w wr
theorem znh{f:zal}{r:List zal}(h:zca f≠0):zbm (f::r)=zca f:=by rw[zbm,Qe h]
theorem zmK{f:zal}{r:List zal}(h:zca f=0):zbm (f::r)=zbm r:=by rw[zbm,Qg h]
theorem zep(h:za3)(A:Option Addr)(c:Nat)(w:World)(Z:Sl w w.heap.size 2 A h.fs.length (h.fs.flatMap zaA))(P:h.m.size<=maxLen)(V:h.t.size<=maxLen)
 (hs:∀f∈h.fs,f.1.size<=maxLen/\f.2.size<=maxLen) (hl:h.fs.length<=4398046511104):
 Calls prog 56 #[.agg #[.string h.m,.string h.t,.slice A h.fs.length c]] w λe w'=>e=jC (jA (zag h))/\w w':=by
 have F:h.m.data.toList.length=h.m.size:=by simp
 have s:∀o,w (w.alloc o):=λo=>(Qj _ _).alloc (Qc _) o
 have g:=hIx s;clear s
 by_cases q:ze8 h.m.data.toList h.t.data.toList=false
 ·have r:Hid (zag h=4):=by unfold Hid zag;rw[Qg q]
  cases h1:zdm h.m.data.toList with
  |false=>
   have d:=λW=>hIx (zh0 (w:=W) P h1)
   clear q h1
   go_in
   go_wp2_with (go_at_call 87;refine(d _).out.mono ?_;rintro e w' ⟨rfl,rfl⟩);go_ret;exact⟨zac r.out.symm,g.out _⟩
  |true=>
   have d:=λW=>hIx (zh0 (w:=W) P h1)
   by_cases h2:20<h.m.size
   ·have U:decide ((20:Int)<(h.m.size:Int))=true:=Qu (by omega)
    clear q h1 h2
    go_in
    go_wp2_with (go_at_call 87;refine(d _).out.mono ?_;rintro e w' ⟨rfl,rfl⟩);go_ret;exact⟨zac r.out.symm,g.out _⟩
   ·have U:decide ((20:Int)<(h.m.size:Int))=false:=Qq (by omega)
    cases y:h.t.data.toList.isEmpty with
    |true=>
     have Y:h.t.toList.isEmpty=true:=by rw[QP];exact y
     clear q h1 h2 y
     go_in
     go_wp2_with (go_at_call 87;refine(d _).out.mono ?_;rintro e w' ⟨rfl,rfl⟩);go_ret;exact⟨zac r.out.symm,g.out _⟩
    |false=>
     have Y:h.t.toList.isEmpty=false:=by rw[QP];exact y
     have E:zdi h.t.data.toList=false:=by
      unfold ze8 at q;rw[h1,y,F,Qu (by omega:h.m.size<=20)]at q
      simpa using q
     have I:=λW=>hIx (zfk (w:=W) V E)
     clear q h1 h2 y E
     go_in
     go_wp2_with (first|(go_at_call 87;refine(d _).out.mono ?_;rintro e w' ⟨rfl,rfl⟩)|(go_at_call 88;refine(I _).out.mono ?_;rintro e w' ⟨rfl,rfl⟩));go_ret;exact⟨zac r.out.symm,g.out _⟩
 ·rw[Bool.not_eq_false]at q
  have B:=q;unfold ze8 at B;simp only[QU,QY,Bool.not_eq_true',F]at B;obtain⟨⟨⟨h1,h2⟩,y⟩,E⟩:=B;have d:=λW=>hIx (zh0 (w:=W) P h1)
  have I:=λW=>hIx (zfk (w:=W) V E)
  have U:decide ((20:Int)<(h.m.size:Int))=false:=Qq (by omega);have Y:h.t.toList.isEmpty=false:=by rw[QP];exact y
  have r:Hid (zag h=if 1000<h.t.size\/30<h.fs.length then 5 else zbm h.fs):=by unfold Hid zag;rw[Qe (by rw[q];decide)]
  clear q h1 h2 y E
  by_cases J:1000<h.t.size
  ·have d5:decide ((1000:Int)<(h.t.size:Int))=true:=Qu (by omega)
   have j:Hid (zag h=5):=by unfold Hid;rw[r.out,Qg (.inl J)]
   clear J r
   go_in
   go_wp2_with (first|(go_at_call 87;refine(d _).out.mono ?_;rintro e w' ⟨rfl,rfl⟩)|(go_at_call 88;refine(I _).out.mono ?_;rintro e w' ⟨rfl,rfl⟩));go_ret;exact⟨zac j.out.symm,g.out _⟩
  ·have d5:decide ((1000:Int)<(h.t.size:Int))=false:=Qq (by omega)
   by_cases Q:30<h.fs.length
   ·have d6:decide ((30:Int)<(h.fs.length:Int))=true:=Qu (by omega)
    have j:Hid (zag h=5):=by unfold Hid;rw[r.out,Qg (.inr Q)]
    clear J Q r
    go_in
    go_wp2_with (first|(go_at_call 87;refine(d _).out.mono ?_;rintro e w' ⟨rfl,rfl⟩)|(go_at_call 88;refine(I _).out.mono ?_;rintro e w' ⟨rfl,rfl⟩));go_ret;exact⟨zac j.out.symm,g.out _⟩
   ·have d6:decide ((30:Int)<(h.fs.length:Int))=false:=Qq (by omega)
    have j:Hid (zag h=zbm h.fs):=by unfold Hid;rw[r.out,Qe (by omega)]
    have s:=g.out (.cells #[.string h.m,.string h.t,.slice A h.fs.length c] 27);have h0:h.fs.length<=30:=by omega
    clear J Q r
    go_in
    go_wp2_with (first|(go_at_call 87;refine(d _).out.mono ?_;rintro e w' ⟨rfl,rfl⟩)|(go_at_call 88;refine(I _).out.mono ?_;rintro e w' ⟨rfl,rfl⟩))
    go_loopw [41] (λi wr=>zpT h w i wr) (λi _=>h.fs.length-(intOf i).toNat)
    case atStart=>exact⟨0,Qm _,rfl,by unfold Hid;rw[List.drop_zero],s⟩
    case round=>
     obtain⟨k,hk,rfl,T,hb⟩:=hrel;clear s
     by_cases z:k<h.fs.length
     ·have d1:decide ((k:Int)<(h.fs.length:Int))=true:=Qu (by omega)
      have i7:IntKind.i64.wrap ((k:Int)+1)=(k:Int)+1:=Qx _ (by omega);obtain⟨b,off,rfl,h7,L,O⟩:=zjR (Z.below hb) k z;have C:=hs _ (Qz z);have D:Hid (h.fs.drop k=h.fs[k]::h.fs.drop (k+1)):=Zb z;have HB:=hIx hb;have G:w (wr.alloc (.cells #[.string h.fs[k].1,.string h.fs[k].2] 133)):=hb.alloc hb.size _;have l:=hIx G;generalize h.fs[k]=f at *;obtain⟨n,v⟩:=f;dsimp only at L O C l;have N:=C.1;have S:=C.2;unfold maxLen at N S;clear hb Z G hs;have a:Hid (∀e,zca (n,v)=e->e≠0->zag h=e):=λe h1 h2=>by rw[j.out,T.out,D.out,znh (by rw[h1];exact h2),h1]
      cases p:zdm n.data.toList with
      |false=>
       have d:=λW=>hIx (zh0 (w:=W) C.1 p)
       have x:=hIx (a.out 4 (by unfold zca;rw[Qg];dsimp only;rw[p];rfl) (by decide));clear p a;go_wp2_with (first|(go_at_call 87;refine(d _).out.mono ?_;rintro e w' ⟨rfl,rfl⟩));go_ret;exact⟨zac x.out.symm,l.out⟩
      |true=>
       have d:=λW=>hIx (zh0 (w:=W) C.1 p)
       cases u:zdT v.data.toList with
       |false=>
        have H:=λW=>hIx (zl9 (w:=W) C.2 u)
        have x:=hIx (a.out 4 (by unfold zca;rw[Qg];dsimp only;rw[p,u];rfl) (by decide));clear p u a;go_wp2_with (first|(go_at_call 87;refine(d _).out.mono ?_;rintro e w' ⟨rfl,rfl⟩)|(go_at_call 89;refine(H _).out.mono ?_;rintro e w' ⟨rfl,rfl⟩));go_ret;exact⟨zac x.out.symm,l.out⟩
       |true=>
        have H:=λW=>hIx (zl9 (w:=W) C.2 u)
        by_cases K:1000<n.size
        ·have d3:decide ((1000:Int)<(n.size:Int))=true:=Qu (by omega)
         have x:=hIx (a.out 5 (by unfold zca;rw[Qe (by dsimp only;rw[p,u];decide),Qg (by dsimp only;omega)]) (by decide));clear p u K a;go_wp2_with (first|(go_at_call 87;refine(d _).out.mono ?_;rintro e w' ⟨rfl,rfl⟩)|(go_at_call 89;refine(H _).out.mono ?_;rintro e w' ⟨rfl,rfl⟩));go_ret;exact⟨zac x.out.symm,l.out⟩
        ·have d3:decide ((1000:Int)<(n.size:Int))=false:=Qq (by omega)
         have i8:IntKind.i64.wrap (1000-(n.size:Int))=1000-(n.size:Int):=Qx _ (by omega)
         by_cases X:1000<n.size+v.size
         ·have d4:decide ((1000:Int)-(n.size:Int)<(v.size:Int))=true:=Qu (by omega)
          have x:=hIx (a.out 5 (by unfold zca;rw[Qe (by dsimp only;rw[p,u];decide),Qg (by dsimp only;omega)]) (by decide));clear p u K X a;go_wp2_with (first|(go_at_call 87;refine(d _).out.mono ?_;rintro e w' ⟨rfl,rfl⟩)|(go_at_call 89;refine(H _).out.mono ?_;rintro e w' ⟨rfl,rfl⟩));go_ret;exact⟨zac x.out.symm,l.out⟩
         ·have d4:decide ((1000:Int)-(n.size:Int)<(v.size:Int))=false:=Qq (by omega)
          have HN:Hid (zbm h.fs=zbm (h.fs.drop (k+1))):=by
           unfold Hid;rw[T.out,D.out,zmK];unfold zca;rw[Qe (by dsimp only;rw[p,u];decide),Qe (by dsimp only;omega)]
          clear p u K X a;go_wp2_with (first|(go_at_call 87;refine(d _).out.mono ?_;rintro e w' ⟨rfl,rfl⟩)|(go_at_call 89;refine(H _).out.mono ?_;rintro e w' ⟨rfl,rfl⟩))
          go_roundw
          case rel=>exact⟨k+1,by omega,by go_num,HN,l.out⟩
          case measure=>simp[intOf] <;> omega
     ·obtain rfl:k=h.fs.length:=by omega
      have d1:decide ((h.fs.length:Int)<(h.fs.length:Int))=false:=by simp
      have x:Hid (zag h=0):=by unfold Hid;rw[j.out,T.out,List.drop_length];rfl
      go_wp2;go_ret;exact⟨zac x.out.symm,hb⟩
def zhY(l:jE)(w:World)(e:Ending)(w':World):Prop:=
 (zc5 l=none/\e=jC (.tuple #[jD 0 0,.bool false])/\w w')\/
 ∃a,zc5 l=some a/\e=jC (.tuple #[.slice w.heap.size a.length a.length,.bool true])/\w'=w.alloc (.cells (a.map λx=>Value.string (bs x)).toArray 9)
def zsH(a:List jE)(i:Value):Prop:=∃k:Nat,k<=a.length/\i=jA k/\Hid ((a.take k).all zb6=true)
theorem zv6(l:jE)(h:Lib.hasSuffix l endL=true):Lib.trimSuffix l endL=l.take (l.length-4):=by
 unfold Lib.trimSuffix;rw[Qg h]
 rfl
theorem zrY(l:jE)(b:UInt8):decide (0<=Lib.indexByte l b)=l.contains b:=(Lib.contains_iff_indexByte l b).symm
theorem zrG(s:ByteArray)(w:World)(D:LibOk w)(hs:s.size<=4194304):
 Calls prog 93 #[.string s] w (zhY s.data.toList w):=by
 obtain⟨m0,A⟩:=D;have d:=strings_CutSuffix s (ByteArray.mk #[13,10,13,10]) w (by omega);have E:s.data.toList.length=s.size:=by simp
 rw[show (ByteArray.mk #[13,10,13,10]).data.toList=endL from rfl]at d;cases f:Lib.hasSuffix s.data.toList endL with
 |false=>
  rw[f]at d;have HN:Hid (zc5 s.data.toList=none):=by unfold Hid zc5;rw[Qe (by rw[f];decide)]
  have J:=hIx d;clear d f A E
  go_in
  go_wp2_with fail;refine J.out.mono ?_;rintro e z ⟨rfl,rfl⟩;go_wp2;exact Qi (v:=.tuple #[jD 0 0,.bool false]) (by simp[results,results93,go_sem]) rfl (.inl ⟨HN.out,rfl,Qj _ _⟩)
 |true=>
  rw[f,zv6 _ f]at d;obtain⟨t,H⟩:∃t,bs (s.data.toList.take (s.data.toList.length-4))=t:=⟨_,rfl⟩
  have C:t.data.toList=s.data.toList.take (s.data.toList.length-4):=by rw[<-H];rfl
  have P:t.size<=4194304:=by rw[<-H,zae,QJ];omega
  rw[show (ByteArray.mk (s.data.toList.take (s.data.toList.length-4)).toArray)=t from H]at d;have m:=strings_Split t ⟨#[13,10]⟩ m0 w (by omega) A (by decide);have l:=zq6 t;have p:=Xh ⟨#[13,10]⟩ (by decide) 0 _ t rfl;generalize Lib.splitB ⟨#[13,10]⟩ 0 (Lib.countB t ⟨#[13,10]⟩) t=c at m l p;generalize Lib.countB t ⟨#[13,10]⟩=n at m p;rw[<-p]at m;have u:(spl2 t.data.toList).length=c.length:=by rw[<-l,Qh]
  have Q:=zg6 t.data.toList;have O:t.data.toList.length=t.size:=by simp
  have h0:c.length<=4194305:=by omega
  have T:Hid (zc5 s.data.toList=if (spl2 t.data.toList).all zb6=true then some (spl2 t.data.toList)else none):=by unfold Hid zc5;rw[Qg f,C]
  have I:=hIx l;have L:=hIx m;have g:=hIx u;have J:=hIx d
  have N:Hid (∀j (h:j<c.length),(w.alloc (.cells (c.map Value.string).toArray 9)).cell? ⟨w.heap.size,j,none⟩=some (.string c[j])):=λj h=>by
   rw[zao (Qj _ _) j];simp[h]
  have K:Hid (w (w.alloc (.cells (c.map Value.string).toArray 9))):=WaL
  have G:Hid ((c.map Value.string)=(spl2 t.data.toList).map λx=>Value.string (bs x)):=by
   unfold Hid;rw[<-l,Xr]
   rfl
  clear d f A m l p u Q C H P O E
  go_in
  go_wp2_with fail;refine J.out.mono ?_;rintro e z ⟨rfl,rfl⟩;go_wp2_with fail;refine L.out.mono ?_;rintro e w2 ⟨rfl,rfl⟩;go_wp2_with fail
  go_loop [19] (λi=>zsH (spl2 t.data.toList) i) (λi=>c.length-(intOf i).toNat)
  case atStart=>exact⟨0,Qm _,rfl,rfl⟩
  case round=>
   obtain⟨k,X,rfl,F⟩:=hrel;rw[g.out]at X
   by_cases B:k<c.length
   ·have i7:IntKind.i64.wrap ((k:Int)+1)=(k:Int)+1:=Qx _ (by omega)
    have Z:decide ((k:Int)<(c.length:Int))=true:=by simp;omega
    have hc:=N.out k B;have y:k<(spl2 t.data.toList).length:=by rw[g.out];exact B
    have V:Hid (c[k].data.toList=(spl2 t.data.toList)[k]):=by
     unfold Hid;have:=I.out;simp only[<-this,Zm]
    have b:Hid (zb6 (spl2 t.data.toList)[k]=false->zhY s.data.toList z (jC (.tuple #[jD 0 0,.bool false])) (z.alloc (.cells (c.map Value.string).toArray 9))):=λh=>.inl ⟨(by
     rw[T.out,Qe];intro ha;have:=Zl.1 ha _ (Qz y);rw[h]at this;cases this),rfl,K.out⟩
    have a:Hid (zb6 (spl2 t.data.toList)[k]=true->((spl2 t.data.toList).take (k+1)).all zb6=true):=λh=>by
     rw[Qs y,List.all_append,F.out];simp[h]
    rw[<-V.out]at b a;generalize c[k]=x at hc V b a;cases c1:x.data.toList.isEmpty with
    |true=>
     have Y:x.toList.isEmpty=true:=by rw[QP];exact c1
     have r:=hIx (b.out (by unfold zb6;rw[c1];rfl));clear c1 b a;go_wp2;exact Qi (v:=.tuple #[jD 0 0,.bool false]) (by simp[results,results93,go_sem]) rfl r.out
    |false=>
     have Y:x.toList.isEmpty=false:=by rw[QP];exact c1
     have S:=zrY x.data.toList 13;have U:=zrY x.data.toList 10;have o:=λW=>hIx (strings_IndexByte x 13 W)
     have q:=λW=>hIx (strings_IndexByte x 10 W)
     rw[show (13:Int).toNat.toUInt8=13 from rfl]at o;rw[show (10:Int).toNat.toUInt8=10 from rfl]at q;generalize Lib.indexByte x.data.toList 13=z1 at *;generalize Lib.indexByte x.data.toList 10=z2 at *;cases c2:x.data.toList.contains 13 with
     |true=>
      rw[c2]at S;have r:=hIx (b.out (by unfold zb6;rw[c2];simp));clear c1 c2 b a;go_wp2_with (go_at_call 122;first|(refine(o _).out.mono ?_;rintro e w' ⟨rfl,rfl⟩)|(refine(q _).out.mono ?_;rintro e w' ⟨rfl,rfl⟩));exact Qi (v:=.tuple #[jD 0 0,.bool false]) (by simp[results,results93,go_sem]) rfl r.out
     |false=>
      rw[c2]at S;cases c3:x.data.toList.contains 10 with
      |true=>
       rw[c3]at U;have r:=hIx (b.out (by unfold zb6;rw[c3];simp));clear c1 c2 c3 b a;go_wp2_with (go_at_call 122;first|(refine(o _).out.mono ?_;rintro e w' ⟨rfl,rfl⟩)|(refine(q _).out.mono ?_;rintro e w' ⟨rfl,rfl⟩));exact Qi (v:=.tuple #[jD 0 0,.bool false]) (by simp[results,results93,go_sem]) rfl r.out
      |false=>
       rw[c3]at U;have r:=hIx (a.out (by unfold zb6;rw[c1,c2,c3];rfl));clear c1 c2 c3 b a;go_wp2_with (go_at_call 122;first|(refine(o _).out.mono ?_;rintro e w' ⟨rfl,rfl⟩)|(refine(q _).out.mono ?_;rintro e w' ⟨rfl,rfl⟩))
       go_round
       case rel=>exact⟨k+1,by rw[g.out];omega,by go_num,r⟩
       case measure=>simp[intOf] <;> omega
   ·obtain rfl:k=c.length:=by omega
    have Z:decide ((c.length:Int)<(c.length:Int))=false:=by simp
    have r:Hid (zhY s.data.toList z (jC (.tuple #[.slice z.heap.size c.length c.length,.bool true])) (z.alloc (.cells (c.map Value.string).toArray 9))):=by
     refine .inr ⟨spl2 t.data.toList,?_,by rw[g.out],by rw[G.out]⟩;have:=F.out;rw[<-g.out,QZ]at this;rw[T.out,Qg this]
    go_wp2;exact Qi (v:=.tuple #[.slice z.heap.size c.length c.length,.bool true]) (by simp[results,results93,go_sem]) rfl r.out
theorem zoE{T e:TypeId}{B b:Nat}{p:Value}{l:List Value}{w w':World}(h:Lib.BuilderAt T e B b p l w)(hb:w w'):Lib.BuilderAt T e B b p l w':=by
 have c:=h.lt;obtain⟨g,v,f,a,d⟩:=h;exact⟨g,v,(hb.block b c).trans f,zaU a hb,d⟩
theorem znm{T e:TypeId}{B b:Nat}{l:List Value}{w w':World}(h:Lib.IsBuilder T e B b l w)(hb:w w'):Lib.IsBuilder T e B b l w':=
 h.imp (λx=>zoE x hb) λx=>zoE x hb
theorem zlJ{T e:TypeId}{B b:Nat}{l:jE}{s:ByteArray}{w:World}{p:Value}(h:Lib.BuilderAt T e B b p (Lib.byteCells l++Lib.strCells s) w):Lib.BuilderAt T e B b p (Lib.byteCells (l++s.data.toList)) w:=by
 rw[Lib.strCells_eq]at h;unfold Lib.byteCells at h ⊢;rw[Q2];exact h
def zcH(h:za3)(w:World)(e:Ending)(w':World):Prop:=
 (zag h=0/\e=jC (.tuple #[.string (bs (zas h)),jA 0])/\w w')\/(zag h≠0/\e=jC (.tuple #[.string ByteArray.empty,jA (zag h)])/\w w')
def zje(a:List zal):jE:=a.flatMap λf=>zcX f++[13,10]
theorem zih:∀(a:List zal),(∀f∈a,f.1.size+f.2.size<=1000)->(zje a).length<=a.length*1004
 | [],_=>by simp[zje]
 |f::r,h=>by
  have ih:=zih r λg b=>h g (by simp[b])
  have h1:=h f (by simp);have c:f.1.data.toList.length=f.1.size:=by simp
  have d:f.2.data.toList.length=f.2.size:=by simp
  unfold zje at ih ⊢;unfold zcX at ih ⊢;simp only[QH,Qa,Qn,QS]at ih ⊢;omega
theorem zjz(h:za3)(a:zh3 h):(zcA h).length<=1030:=by
 have c:h.m.data.toList.length=h.m.size:=by simp
 have b:h.t.data.toList.length=h.t.size:=by simp
 have:=a.short;have:=a.line;unfold zcA verL;simp only[Qa,Qn,QS];omega
theorem zgq(h:za3)(a:zh3 h):(zas h).length<=31154:=by
 have h1:=zjz h a;have h2:=zih h.fs a.lens;have b:=a.few;unfold zas;unfold zje at h2;simp only[Qa,Qn,QS];omega
def PRel(h:za3)(a:World)(g:Nat)(i:Value)(wr:World):Prop:=
 ∃(k:Nat) (l:jE),k<=h.fs.length/\i=jA k/\Hid (l=zcA h++[13,10]++zje (h.fs.take k))/\Lib.IsBuilder 142 5 g g (Lib.byteCells l) wr/\Below g a wr
theorem zko(h:za3)(A:Option Addr)(c:Nat)(w:World)(P:Sl w w.heap.size 2 A h.fs.length (h.fs.flatMap zaA))(hm:h.m.size<=maxLen)(ht:h.t.size<=maxLen)
 (hs:∀f∈h.fs,f.1.size<=maxLen/\f.2.size<=maxLen) (hl:h.fs.length<=4398046511104):
 Calls prog 42 #[.agg #[.string h.m,.string h.t,.slice A h.fs.length c]] w (zcH h w):=by
 have s:w (w.alloc (.cells #[.string h.m,.string h.t,.slice A h.fs.length c] 27)):=WaL;have O:=zep h A c (w.alloc (.cells #[.string h.m,.string h.t,.slice A h.fs.length c] 27)) ((P.below s).more s.size) hm ht hs hl;have HC:=hIx O;have hq:=hIx s;clear O s
 by_cases D:zag h=0
 ·have B:=zdF D
  rw[D]at HC;have h0:=hIx (zjz h B)
  have h4:Hid (∀k,(zje (h.fs.take k)).length<=30120):=λk=>by
   have h1:=zih (h.fs.take k) λf P=>B.lens f (Xd P)
   have h2:=B.few;rw[QJ]at h1;have:min k h.fs.length*1004<=30*1004:=Xs _ (by omega);omega
  have hv:=B.short;have hj:=B.line;have hn:=B.few;have h6:=hIx B.lens;have V:∀W,(Op.stringOp .add h.m (ByteArray.mk #[32])).run prog W=.ok (.string (h.m++ByteArray.mk #[32])) W:=λW=>Zv W _ _ (by show h.m.size+1<=_;omega)
  have y2:∀W,(Op.stringOp .add (h.m++ByteArray.mk #[32]) h.t).run prog W=.ok (.string (h.m++ByteArray.mk #[32]++h.t)) W:=λW=>Zv W _ _ (by rw[Q5];show h.m.size+1+h.t.size<=_;omega)
  have y3:∀W,(Op.stringOp .add (h.m++ByteArray.mk #[32]++h.t) (ByteArray.mk #[32,72,84,84,80,47,49,46,49,13,10])).run prog W=.ok (.string (h.m++ByteArray.mk #[32]++h.t++ByteArray.mk #[32,72,84,84,80,47,49,46,49,13,10])) W:=λW=>Zv W _ _ (by rw[Q5,Q5];show h.m.size+1+h.t.size+11<=_;omega)
  have h9:Hid ((h.m++ByteArray.mk #[32]++h.t++ByteArray.mk #[32,72,84,84,80,47,49,46,49,13,10]).data.toList=zcA h++[13,10]):=by unfold Hid zcA verL;simp
  have ha:Hid ((h.m++ByteArray.mk #[32]++h.t++ByteArray.mk #[32,72,84,84,80,47,49,46,49,13,10]).size<=1100):=by
   unfold Hid;rw[Q5,Q5,Q5];show h.m.size+1+h.t.size+11<=_
   omega
  have h7:=hIx D;clear B D hs hl
  go_in
  go_wp2_with fail;refine HC.out.mono ?_;rintro e d ⟨rfl,j⟩;obtain⟨b0,b1,b2⟩:d.cell? w.heap.size=some (.string h.m)/\d.cell? ⟨w.heap.size,1,none⟩=some (.string h.t)/\d.cell? ⟨w.heap.size,2,none⟩=some (.slice A h.fs.length c):=⟨zao j 0,zao j 1,zao j 2⟩
  have a:=zaI j (Qc _);have u:w.heap.size<d.heap.size:=by have:=j.size;simp at this;omega
  have Q:=Lib.fresh_isBuilder 142 5 d;have q:=(Qj d.heap.size d).alloc (Qc _) (.cells #[.pointer none,jD 0 0] 142)
  have T:Hid (∀W,d W->(W.cell? w.heap.size=some (.string h.m)/\W.cell? ⟨w.heap.size,1,none⟩=some (.string h.t)/\W.cell? ⟨w.heap.size,2,none⟩=some (.slice A h.fs.length c))/\w W/\Sl W W.heap.size 2 A h.fs.length (h.fs.flatMap zaA)):=λW hb=>
   ⟨⟨(hb.cell (p:=⟨w.heap.size,0,none⟩) u).trans b0,(hb.cell (p:=⟨w.heap.size,1,none⟩) u).trans b1,(hb.cell (p:=⟨w.heap.size,2,none⟩) u).trans b2⟩,a.trans (hb.mono a.size),(P.below (a.trans (hb.mono a.size))).more (a.trans (hb.mono a.size)).size⟩
  have Z:=hIx (zcL d.heap.size d.heap.size [] (h.m++ByteArray.mk #[32]++h.t++ByteArray.mk #[32,72,84,84,80,47,49,46,49,13,10]) (d.alloc (.cells #[.pointer none,jD 0 0] 142)) Q (by rw[QS];have:=ha.out;omega) (by simp));have h5:=hIx q;clear j a Q P q;go_wp2_with fail;refine Z.out.mono ?_;rintro e w2 ⟨rfl,z,q⟩;have o:=zlJ (l:=[]) z;rw[Xu,h9.out]at o;have g:d w2:=h5.out.trans q;have hr:d.heap.size<=w2.heap.size:=g.size;obtain⟨⟨c0,c1,c2⟩,_,_⟩:=T.out w2 g;clear b0 b1 b2 z q V y2 y3;go_wp2
  go_loopw [24] (λi wr=>PRel h d d.heap.size i wr) (λi _=>h.fs.length-(intOf i).toNat)
  case atStart=>exact⟨0,_,Qm _,rfl,by unfold Hid zje;rw[XM,Xa,QE],.inr o,g⟩
  case round=>
   obtain⟨k,l,hk,rfl,HL,r,hb⟩:=hrel;clear c0 c1 c2 g o;obtain⟨⟨c0,c1,c2⟩,K,H⟩:=T.out wr hb
   have hu:l.length<=31152:=by
    have h1:=h0.out;have h2:=h4.out k;rw[HL.out,Qa,Qa];show (zcA h).length+2+_<=_
    omega
   have N:d.heap.size<=wr.heap.size:=hb.size
   by_cases G:k<h.fs.length
   ·have d1:decide ((k:Int)<(h.fs.length:Int))=true:=Qu (by omega)
    have i7:IntKind.i64.wrap ((k:Int)+1)=(k:Int)+1:=Qx _ (by omega);obtain⟨b,off,rfl,hp,I,J⟩:=zjR H k G;have HS:=h6.out _ (Qz G)
    have S:Hid (zje (h.fs.take (k+1))=zje (h.fs.take k)++(zcX h.fs[k]++[13,10])):=by
     unfold Hid zje;rw[Qs G,Q6,QH,Xa,QE]
    generalize h.fs[k]=f at I J HS S;obtain⟨n,v⟩:=f;dsimp only at I J HS S;have V:∀W,(Op.stringOp .add n (ByteArray.mk #[58,32])).run prog W=.ok (.string (n++ByteArray.mk #[58,32])) W:=λW=>Zv W _ _ (by show n.size+2<=_;omega)
    have y2:∀W,(Op.stringOp .add (n++ByteArray.mk #[58,32]) v).run prog W=.ok (.string (n++ByteArray.mk #[58,32]++v)) W:=λW=>Zv W _ _ (by rw[Q5];show n.size+2+v.size<=_;omega)
    have y3:∀W,(Op.stringOp .add (n++ByteArray.mk #[58,32]++v) (ByteArray.mk #[13,10])).run prog W=.ok (.string (n++ByteArray.mk #[58,32]++v++ByteArray.mk #[13,10])) W:=λW=>Zv W _ _ (by rw[Q5,Q5];show n.size+2+v.size+2<=_;omega)
    have L:(n++ByteArray.mk #[58,32]++v++ByteArray.mk #[13,10]).data.toList=zcX (n,v)++[13,10]:=by unfold zcX;simp
    have h8:(n++ByteArray.mk #[58,32]++v++ByteArray.mk #[13,10]).size<=1004:=by
     rw[Q5,Q5,Q5];show n.size+2+v.size+2<=_
     omega
    have F:=(Qj wr.heap.size wr).alloc (Qc _) (.cells #[.string n,.string v] 133);have HW:=hIx (zcL d.heap.size d.heap.size (Lib.byteCells l) (n++ByteArray.mk #[58,32]++v++ByteArray.mk #[13,10]) (wr.alloc (.cells #[.string n,.string v] 133)) (znm r F) (by rw[Lib.byteCells_length];omega) (by simp;omega));have X:=hIx L;have U:d (wr.alloc (.cells #[.string n,.string v] 133)):=hb.trans (F.mono N);have Y:=hIx U;clear L h8 F r hb U H K;go_wp2_with fail;refine HW.out.mono ?_;rintro e w3 ⟨rfl,C,g⟩;have E:=zlJ C;rw[X.out]at E;have y:d w3:=Y.out.trans g;clear C g c0 c1 c2 I J V y2 y3;go_wp2_with fail
    go_roundw
    case rel=>exact⟨k+1,_,by omega,by go_num,by unfold Hid;rw[HL.out,S.out,QG],.inr E,y⟩
    case measure=>simp[intOf] <;> omega
   ·obtain rfl:k=h.fs.length:=by omega
    have d1:decide ((h.fs.length:Int)<(h.fs.length:Int))=false:=by simp
    have he:=hIx (Builder_String_any d.heap.size d.heap.size l wr r N);have hd:=hIx K;have V:∀W,(Op.stringOp .add (ByteArray.mk l.toArray) (ByteArray.mk #[13,10])).run prog W=.ok (.string (ByteArray.mk l.toArray++ByteArray.mk #[13,10])) W:=λW=>Zv W _ _ (by show l.length+2<=_;omega)
    have L:(ByteArray.mk l.toArray++ByteArray.mk #[13,10])=bs (zas h):=by
     show bs l++bs [13,10]=_
     rw[zh9,HL.out,QZ]
     rfl
    clear r hb H K;go_wp2_with fail;refine he.out.mono ?_;rintro e w3 ⟨rfl,g⟩;have y:=hd.out.trans (g.mono (QX u));have hg:(ByteArray.mk l.toArray).size=l.length:=rfl;have HP:Hid (zcH h w (jC (.tuple #[.string (ByteArray.mk l.toArray++ByteArray.mk #[13,10]),jA 0])) w3):=.inl ⟨h7.out,by rw[L],y⟩;clear L y g;go_wp2;exact Qi (v:=.tuple #[.string (ByteArray.mk l.toArray++ByteArray.mk #[13,10]),jA 0]) (by simp[results,results42,go_sem]) rfl HP.out
 ·have S:=hIx D
  have hi:(zag h==0)=false:=Qb.2 D;have hh:(zag h != 0)=true:=Q7.2 D;have h3:Hid (zag h=zag h):=rfl;generalize hx:zag h=x at *;have X:=hIx hx;clear D hx h3
  go_in
  go_wp2_with fail;refine HC.out.mono ?_;rintro e d ⟨rfl,j⟩;have a:=zaI j (Qc _);clear j;go_wp2;exact Qi (v:=.tuple #[.string ByteArray.empty,jA x]) (by simp[results,results42,go_sem];rfl) rfl (.inr ⟨by rw[X.out];exact S.out,by rw[X.out],a⟩)
