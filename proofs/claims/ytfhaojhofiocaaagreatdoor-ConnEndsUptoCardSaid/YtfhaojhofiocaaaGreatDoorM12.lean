/- Lemmas for the last texts. -/
import Derived.Test.YtfhaojhofiocaaaGreatDoorM05
import Derived.Test.YtfhaojhofiocaaaGreatDoorM11
import Derived.Lib.Strings
import Derived.Lib.ItoaNum
import Derived.Lib.Bytealg
import Derived.Laws.BitsAllLaws
import Derived.Laws.BitsLemmas
import Derived.Shelf.SlicesQ.Equal
set_option maxHeartbeats 1600000
set_option maxRecDepth 100000
namespace Go.Proofs.YtfhaojhofiocaaaGreatDoor
open Go.RowKit Go.Proofs.Tryz
section
variable {ws:List ByteArray} {lo g cap:Nat} {ns:List zaD} {ss:List jE} {ms:List zcK} {w:World}
theorem zqk(c:zjh ws)(s:ByteArray)(h:s.size<=8192)(a:TreeIs w lo ws g cap ns ss ms):
 Calls prog 283 #[.slice g ms.length cap,jA (ws.length:Int),.string s] w λe w'=>e=jC (jA 0)/\w w':=by
 have b:=hIx (zqb ws c.few lo g cap ns ss ms w a);have f:decide ((8192:Int)<(s.size:Int))=false:=by simp;omega
 clear a
 go_in
 go_wp2_with (go_at_call 296;refine b.out.mono ?_;rintro e d ⟨rfl,hb⟩);go_ret;exact⟨rfl,hb⟩
theorem zsS(f:zjh ws)(s:ByteArray)(h:s.size<=8192)(c:TreeIs w lo ws g cap ns ss ms):
 Calls prog 266 #[.slice g ms.length cap,jA (ws.length:Int),.string s] w λe w'=>
  e=jC (.tuple #[.bool (decide (0<(za7 (lstS ws) s.data.toList s.data.toList.length).length)),jA 0])/\w w':=by
 have j:=hIx (zqk f s h c);have m:Hid (∀a,w a->Calls prog 284 #[.slice g ms.length cap,.string s,jA 1] a (zo7 (lstS ws) s.data.toList 1 a)):=hIx λa hb=>zq7 ws f 1 (.inl rfl) s h lo g cap ns ss ms a (c.below hb)
 have k:Hid (decide (0<(zmq (lstS ws) s.data.toList 1).length)=decide (0<(za7 (lstS ws) s.data.toList s.data.toList.length).length)):=by
  unfold Hid zmq;rw[Qj rfl];generalize za7 (lstS ws) s.data.toList s.data.toList.length=l;cases l with
  |nil=>rfl
  |cons y r=>simp
 clear c f
 go_in
 go_wp2_with (first|(go_at_call 283;refine j.out.mono ?_;rintro e a ⟨rfl,hb⟩)|(go_at_call 284;refine(m.out _ hb).mono ?_;rintro e w2 ⟨v,rfl,i,d⟩;obtain⟨n,c5,rfl,_⟩:=i.form))
 go_ret2
 exact⟨Zm (λb=>jC (.tuple #[.bool b,jA 0])) k.out,hb.trans (d.mono hb.size)⟩
end
theorem zmS:zwI:=λws n h1 h2 j A c B e i a f g cap d b l ats w k h=>zno ws n h1 h2 j A c B e i a f g cap d b l ats w k h
def zw7(ws:List ByteArray)(w:World)(e:Ending)(w':World):Prop:=
 w w'/\((∃r:Nat,0<r/\e=jC (.tuple #[jD 0 0,jA (r:Int)])/\(zcD ws≠0\/Full (lstS ws)))\/(zjh ws/\∃g cap c b a,e=jC (.tuple #[.slice (some ⟨g,0,none⟩) a.length cap,jA 0])/\TreeIs w' w.heap.size ws g cap c b a))
theorem zog(A:Option Addr)(c n:Nat)(ws:List ByteArray)(w:World)(b:ws.length=n)(h:Sl w w.heap.size 1 A n (ws.map Value.string)):
 Calls prog 48 #[.slice A n c] w (zw7 ws w):=by
 by_cases a:zcD ws=0
 ·refine(zmr zmS A c n ws w b h a).mono ?_
  rintro e w' ⟨hb,⟨rfl,f⟩|⟨g,cap,k,i,d,rfl,j⟩⟩
  ·exact⟨hb,.inl ⟨2,by decide,rfl,.inr f⟩⟩
  ·exact⟨hb,.inr ⟨zcu a,g,cap,k,i,d,rfl,j⟩⟩
 ·refine(zgP A c n ws w b h a).mono ?_
  rintro e w' ⟨rfl,hb⟩;exact⟨hb,.inl ⟨zcD ws,by omega,rfl,.inl a⟩⟩
def OkW(ws:List ByteArray):Prop:=zjh ws/\¬Full (lstS ws)
theorem zgR{ws:List ByteArray}(h:zjh ws):zcD ws=0:=by
 unfold zcD;have h1:=h.few;have h2:=h.some
 have c:anyN (λj=>decide (40<(ws.getD j ByteArray.empty).size)) ws.length=false:=(zet _ _).2 λj a=>by
  rw[Qr,Qe a];have:=h.short ws[j] (QC a)
  simpa using this
 have b:Lib.containsS ws ByteArray.empty=false:=by
  cases d:Lib.containsS ws ByteArray.empty with
  |false=>rfl
  |true=>exact absurd rfl (h.full _ ((Lib.containsS_iff _ _).1 d))
 rw[Qf (by omega),Qf (by rw[c];decide),Qf (by omega),Qf (by rw[b];decide)]
theorem zjA{ws:List ByteArray}(h:zjh ws):∀v∈lstS ws,v.length<=40:=λv a=>by
 obtain⟨x,b,rfl⟩:=QS.1 a;have:=h.short x b
 simpa using this
section
variable {A:Option Addr} {c n:Nat} {ws:List ByteArray} {w:World}
theorem zuA(a:OkW ws)(k:ws.length=n)(h:Sl w w.heap.size 1 A n (ws.map Value.string)):
 Calls prog 48 #[.slice A n c] w λe w'=>w w'/\∃g cap i f d,e=jC (.tuple #[.slice (some ⟨g,0,none⟩) d.length cap,jA 0])/\TreeIs w' w.heap.size ws g cap i f d:=by
 refine(zog A c n ws w k h).mono ?_;rintro e w' ⟨hb,⟨r,_,_,b⟩|⟨_,g,cap,i,f,d,rfl,j⟩⟩
 ·rcases b with b|b
  ·exact absurd (zgR a.1) b
  ·exact absurd b a.2
 ·exact⟨hb,g,cap,i,f,d,rfl,j⟩
theorem zxs(a:¬OkW ws)(i:ws.length=n)(h:Sl w w.heap.size 1 A n (ws.map Value.string)):
 Calls prog 48 #[.slice A n c] w λe w'=>w w'/\∃r:Nat,0<r/\e=jC (.tuple #[jD 0 0,jA (r:Int)]):=by
 refine(zog A c n ws w i h).mono ?_;rintro e w' ⟨hb,⟨r,f,rfl,_⟩|⟨d,g,cap,l,k,j,rfl,b⟩⟩
 ·exact⟨hb,r,f,rfl⟩
 ·exact absurd ⟨d,zgJ b.lev (zjA d) b.few⟩ a
end
section
open Classical in
noncomputable def mkC(ws:List ByteArray):Nat:=if zcD ws≠0 then zcD ws else if Full (lstS ws)then 2 else 0
theorem zsR{ws:List ByteArray}:mkC ws=0↔OkW ws:=by
 unfold mkC
 by_cases a:zcD ws=0
 ·rw[Qf (by rw[a];decide)]
  by_cases b:Full (lstS ws)
  ·rw[Qj b];exact⟨λe=>absurd e (by decide),λh=>absurd b h.2⟩
  ·rw[Qf b];exact⟨λ_=>⟨zcu a,b⟩,λ_=>rfl⟩
 ·rw[Qj a];exact⟨λe=>absurd e a,λh=>absurd (zgR h.1) a⟩
theorem zrl(A:Option Addr)(c n:Nat)(ws:List ByteArray)(w:World)(f:ws.length=n)(h:Sl w w.heap.size 1 A n (ws.map Value.string)):
 Calls prog 48 #[.slice A n c] w λe w'=>w w'/\∃v,e=jC (.tuple #[v,jA (mkC ws:Nat)]):=by
 by_cases a:zcD ws=0
 ·refine(zmr zmS A c n ws w f h a).mono ?_
  rintro e w' ⟨hb,⟨rfl,i⟩|⟨g,cap,l,k,j,rfl,b⟩⟩
  ·have e:mkC ws=2:=by unfold mkC;rw[Qf (by rw[a];decide),Qj i]
   rw[e];exact⟨hb,_,rfl⟩
  ·have d:=zcu a
   rw[zsR.2 ⟨d,zgJ b.lev (zjA d) b.few⟩];exact⟨hb,_,rfl⟩
 ·refine(zgP A c n ws w f h a).mono ?_
  rintro e w' ⟨rfl,hb⟩;have e:mkC ws=zcD ws:=by unfold mkC;rw[Qj a]
  rw[e];exact⟨hb,_,rfl⟩
end
def zeS(b:UInt8):UInt8:=if 65<=b.toNat/\b.toNat<=90 then b+32 else b
def zaB(l:jE):jE:=l.map zeS
def zbt(k:Nat)(l:jE):jE:=(l.take k).map zeS++l.drop k
theorem zjc(k:Nat)(l:jE):(zbt k l).length=l.length:=by
 simp[zbt];omega
theorem zj8(k:Nat)(l:jE)(h:k<l.length)(a:k<(zbt k l).length):(zbt k l)[k]=l[k]:=by
 have e:(zbt k l)[k]? = l[k]? := by
  unfold zbt;rw[Q1 (by simp;omega)];simp[Nat.min_eq_left (QZ h)]
 rw[Qe a,Qe h]at e;exact QG e
theorem ziQ(k:Nat)(l:jE)(h:k<l.length):(zbt k l).set k (zeS l[k])=zbt (k+1) l:=by
 have a:((l.take k).map zeS).length=k:=by simp;omega
 unfold zbt;rw[ZO k _ (by omega),a,Z8,Zb h,Qg,Qu h,Q2,Q4]
 rfl
theorem zls(k:Nat)(l:jE)(h:k<l.length)(e:zeS l[k]=l[k]):zbt k l=zbt (k+1) l:=by
 rw[<-ziQ k l h,e];refine(List.ext_getElem (by simp) λi h1 h2=>?_).symm;rw[List.getElem_set]
 split
 ·rename_i a;subst a;rw[zj8 _ _ h]
 ·rfl
theorem zme(l:jE):zbt 0 l=l:=by simp[zbt]
theorem zm0(k:Nat)(l:jE)(h:l.length<=k):zbt k l=zaB l:=by
 simp[zbt,zaB,QR h,QM h]
def zut(s:ByteArray)(w:World)(g:Nat)(i:Value)(wr:World):Prop:=
 ∃k:Nat,k<=s.size/\i=jA k/\BytesAt wr g (zbt k s.data.toList)/\w wr
def zbJ(r:ByteArray)(w:World)(e:Ending)(w':World):Prop:=e=jC (.string r)/\w w'
theorem zbg(s:ByteArray)(w:World)(z:s.size<=maxLen):
 Calls prog 116 #[.string s] w (zbJ (bs (zaB s.data.toList)) w):=by
 unfold maxLen at z
 go_in
 go_wp2_with (refine zek rfl _ 9 176 5 rfl underlying9 underlying176 underlying5 _ rfl ?_;intro c D H l g m);have G:=hIx m;clear m;have u:w.heap.size<=w.heap.size:=Qd _
 go_loopw [10] (λi wr=>zut s w w.heap.size i wr) (λi _=>s.size-(intOf i).toNat)
 case atStart=>exact⟨0,Qn _,rfl,by rw[zme];exact l,g⟩
 case round=>
  obtain⟨k,F,rfl,hb,b⟩:=hrel;clear l g;have d:Hid ((zbt k s.data.toList).length=s.size):=by unfold Hid;rw[zjc];simp
  by_cases f:k<s.size
  ·have hl:k<(zbt k s.data.toList).length:=by rw[d.out];exact f
   have e:k<s.data.toList.length:=by simpa using f
   have o:=hb.cell hl;have B:=hb.free hl;have h:=zj8 k s.data.toList e hl;rw[h]at o;have r:=hIx hb;have v:=(s.data.toList[k]).toNat_lt;clear hb h;have I:Hid (s.data.toList[k]=s.data.toList[k]):=rfl;generalize t:s.data.toList[k]=x at *;have j:=hIx t;clear t
   by_cases n:65<=(x.toNat:Int)/\(x.toNat:Int)<=90
   ·have q:=n.1
    have E:=n.2
    have a:Hid ((zeS x).toNat=x.toNat+32):=by
     unfold Hid zeS;rw[Qj (by omega),UInt8.toNat_add];simp;omega
    go_wp2
    go_roundw
    case rel=>
     refine⟨k+1,by omega,by go_num,?_,b.setCell (p:=⟨w.heap.size,k,none⟩) u _⟩;rw[<-ziQ k _ e,j.out];have:=r.out.set hl (zeS x);rw[a.out]at this;exact this
    case measure=>simp[intOf] <;> omega
   ·have a:zeS x=x:=by unfold zeS;rw[Qf (by omega)]
    have y:=hIx a;clear a
    rcases(show (x.toNat:Int)<65\/90<(x.toNat:Int)by omega)with q|q
    all_goals
     clear n
     go_wp2
     go_roundw
     case rel=>
      refine⟨k+1,by omega,by go_num,?_,b⟩;rw[<-zls k _ e (by rw[j.out];exact y.out)];exact r.out
     case measure=>simp[intOf] <;> omega
  ·have C:=zcW (P:=prog) hb 176 9 5 s.size c (by rw[d.out]) underlying176 underlying5 underlying9
   have A:=hIx (zm0 k s.data.toList (by simp;omega));clear hb
   go_wp2
   go_ret;exact⟨by rw[A.out];rfl,b⟩
def zgo(b:UInt8):Bool:=b==32||b==9
theorem zub{b:UInt8}(h:(b.toNat:Int)=32\/(b.toNat:Int)=9):zgo b=true:=by
 unfold zgo
 rcases h with h|h
 ·rw[show b=32 from Zr.1 (show b.toNat=32 by omega)];rfl
 ·rw[show b=9 from Zr.1 (show b.toNat=9 by omega)];rfl
theorem zre{b:UInt8}(h:¬(b.toNat:Int)=32)(a:¬(b.toNat:Int)=9):zgo b=false:=by
 unfold zgo;rw[Xx];exact⟨Qc.2 (by rintro rfl;exact h rfl),Qc.2 (by rintro rfl;exact a rfl)⟩
def zc4(l:jE):jE:=(l.reverse.dropWhile zgo).reverse
def zaI(l:jE):jE:=zc4 (l.dropWhile zgo)
theorem zlj(l:jE)(b:UInt8)(h:zgo b=true):zc4 (l++[b])=zc4 l:=by simp[zc4,h]
theorem zlT(l:jE)(b:UInt8)(h:zgo b=false):zc4 (l++[b])=l++[b]:=by simp[zc4,h]
def zva(s:ByteArray)(i:Value):Prop:=∃k:Nat,k<=s.size/\i=jA k/\zaI s.data.toList=zc4 ((s.data.toList.drop k).dropWhile zgo)
def zv8(s:ByteArray)(a:Nat)(i:Value):Prop:=∃b:Nat,a<=b/\b<=s.size/\i=jA b/\zaI s.data.toList=zc4 ((s.data.toList.take b).drop a)
theorem zdG(s:ByteArray)(w:World)(K:s.size<=maxLen):
 Calls prog 78 #[.string s] w λe w'=>e=jC (.string (bs (zaI s.data.toList)))/\w'=w:=by
 unfold maxLen at K;have u:Hid (s.data.toList.length=s.size):=by unfold Hid;simp
 have N:Hid (∀i n,(s.extract i n).data.toList=(s.data.toList.take n).drop i):=λi n=>by rw[ZL,List.drop_take]
 go_in
 go_wp2
 go_loop [3] (λi=>zva s i) (λi=>s.size-(intOf i).toNat)
 case atStart=>exact⟨0,Qn _,rfl,rfl⟩
 case round=>
  obtain⟨k,G,rfl,r⟩:=hrel;have A:=hIx r;clear r
  by_cases d:∃h:k<s.size,(s[k].toNat:Int)=32\/(s[k].toNat:Int)=9
  ·obtain⟨f,j⟩:=d
   have L:=hIx (zaH s k f);have t:=hIx (zub j)
   rcases j with h1|h1
   have B:((s[k].toNat:Int)==32)=true:=Zn.2 h1
   rotate_left
   have B:((s[k].toNat:Int)==32)=false:=Qc.2 (by omega);have F:((s[k].toNat:Int)==9)=true:=Zn.2 h1
   all_goals
    clear h1
    go_wp2
    go_round
    case rel=>exact⟨k+1,by omega,by go_num,by rw[A.out,L.out,Xy,t.out];rfl⟩
    case measure=>simp[intOf] <;> omega
  ·have m:zaI s.data.toList=zc4 ((s.data.toList.take s.size).drop k):=by
    rw[A.out,QR (by rw[u.out];exact Qd _)]
    by_cases f:k<s.size
    ·have hb:zgo s[k]=false:=zre (λh=>d ⟨f,.inl h⟩) (λh=>d ⟨f,.inr h⟩)
     rw[zaH s k f,Xy,hb];rfl
    ·rw[QM (by rw[u.out];omega)];rfl
   have J:=hIx m;clear m
   have g:¬k<s.size\/∃h:k<s.size,((s[k].toNat:Int)==32)=false/\((s[k].toNat:Int)==9)=false:=by
    by_cases f:k<s.size
    ·exact .inr ⟨f,Qc.2 (λh=>d ⟨f,.inl h⟩),Qc.2 (λh=>d ⟨f,.inr h⟩)⟩
    ·exact .inl f
   clear d
   rcases g with C|⟨f,B,F⟩
   all_goals
    go_wp2
    go_loop [4] (λi=>zv8 s k i) (λi=>(intOf i).toNat)
    case atStart=>exact⟨s.size,G,Qd _,rfl,J.out⟩
    case round=>
     obtain⟨b,E,D,rfl,r⟩:=hrel;have o:=hIx r;clear r
     by_cases d:∃h:b-1<s.size,k<b/\((s[b-1].toNat:Int)=32\/(s[b-1].toNat:Int)=9)
     ·obtain⟨a,l,j⟩:=d
      have t:=hIx (zub j)
      have q:Hid ((s.data.toList.take b).drop k=(s.data.toList.take (b-1)).drop k++[s[b-1]]):=by
       unfold Hid;have e:=zhH s (b-1) a;rw[show b-1+1=b by omega]at e;rw[e,Z0 (by rw[QK,u.out];omega)]
      obtain⟨c,rfl⟩:∃c,b=c+1:=⟨b-1,by omega⟩
      simp only[Nat.add_sub_cancel]at j t q a;have v:(k:Int)<(c:Int)+1:=by omega
      have x:((c:Int)+1-1)=c:=by omega
      rcases j with h1|h1
      have y:((s[c].toNat:Int)==32)=true:=Zn.2 h1
      rotate_left
      have y:((s[c].toNat:Int)==32)=false:=Qc.2 (by omega);have I:((s[c].toNat:Int)==9)=true:=Zn.2 h1
      all_goals
       clear h1
       go_wp2
       go_round
       case rel=>exact⟨c,by omega,by omega,by go_num,by rw[o.out,q.out,zlj _ _ t.out]⟩
       case measure=>simp[intOf] <;> omega
     ·have z:Hid (zc4 ((s.data.toList.take b).drop k)=(s.data.toList.take b).drop k):=by
       unfold Hid
       by_cases l:k<b
       ·have a:b-1<s.size:=by omega
        have e:=zhH s (b-1) a;rw[show b-1+1=b by omega]at e;rw[e,Z0 (by rw[QK,u.out];omega)];exact zlT _ _ (zre (λh=>d ⟨a,l,.inl h⟩) (λh=>d ⟨a,l,.inr h⟩))
       ·rw[QM (by rw[QK];omega)];rfl
      have g:b=k\/∃(c:Nat) (h:c<s.size),b=c+1/\k<c+1/\((s[c].toNat:Int)==32)=false/\((s[c].toNat:Int)==9)=false:=by
       by_cases l:k<b
       ·have a:b-1<s.size:=by omega
        exact .inr ⟨b-1,a,by omega,by omega,Qc.2 (λh=>d ⟨a,l,.inl h⟩),Qc.2 (λh=>d ⟨a,l,.inr h⟩)⟩
       ·exact .inl (by omega)
      clear d
      rcases g with rfl|⟨c,O,rfl,H,y,I⟩
      ·go_wp2
       go_ret;exact⟨zsc (ziI (by rw[o.out,z.out,QM (by rw[QK];omega)];rfl)),rfl⟩
      ·have v:(k:Int)<(c:Int)+1:=by omega
       have x:((c:Int)+1-1)=c:=by omega
       go_wp2
       go_ret;exact⟨zsc (ziI (by rw[N.out,o.out,z.out])),rfl⟩
def LibOk(w:World):Prop:=∃m:Int,w.cell? (0:)=some (jA m)
theorem LibOk.pos{w:World}(h:LibOk w):0<w.heap.size:=by
 obtain⟨m,a⟩:=h;exact QT w ⟨0,0,none⟩ a
theorem LibOk.below{w w':World}(h:LibOk w)(hb:w w'):LibOk w':=by
 have a:=h.pos;obtain⟨m,b⟩:=h;exact⟨m,(hb.cell (p:=⟨0,0,none⟩) a).trans b⟩
def zfV:jE:=[33,35,36,37,38,39,42,43,45,46,94,95,124,126,96]
def letB(b:UInt8):Bool:=decide (97<=(b|||32).toNat)&&decide ((b|||32).toNat<=122)||decide (48<=b.toNat)&&decide (b.toNat<=57)
def tokB(b:UInt8):Bool:=letB b||decide (0<=Lib.indexByte zfV b)
def zec(l:jE):Bool:=!l.isEmpty&&l.all tokB
def zyX(s:ByteArray)(i:Value):Prop:=∃k:Nat,k<=s.size/\i=jA k/\s.data.toList.all tokB=(s.data.toList.drop k).all tokB
theorem zep(b:UInt8):((b.toNat:Int)).toNat.toUInt8=b:=by simp
theorem zwF{b:UInt8}{c i:Int}(a:c=(b|||32).toNat)(d:i=Lib.indexByte zfV b)(h:(97<=c/\c<=122)\/(48<=(b.toNat:Int)/\(b.toNat:Int)<=57)\/0<=i):tokB b=true:=by
 subst d;subst a
 unfold tokB letB;simp only[Xh,Q3,QX];omega
theorem zy5{b:UInt8}{c i:Int}(a:c=(b|||32).toNat)(d:i=Lib.indexByte zfV b)(h:¬((97<=c/\c<=122)\/(48<=(b.toNat:Int)/\(b.toNat:Int)<=57)\/0<=i)):tokB b=false:=by
 subst d;subst a
 unfold tokB letB;simp only[Xx,Bool.and_eq_false_iff,XE];omega
theorem ztH(s:ByteArray)(w:World)(v:s.size<=maxLen):
 Calls prog 112 #[.string s] w λe w'=>e=jC (.bool (zec s.data.toList))/\w'=w:=by
 unfold maxLen at v;have n:Hid (s.data.toList.length=s.size):=by unfold Hid;simp
 go_in
 go_wp2_with fail
 go_loop [8] (λi=>zyX s i) (λi=>s.size-(intOf i).toNat)
 case atStart=>exact⟨0,Qn _,rfl,rfl⟩
 case round=>
  obtain⟨k,y,rfl,o⟩:=hrel;have a:=hIx o;clear o
  by_cases d:k<s.size
  ·have m:=hIx (zaH s k d)
   have f:Hid (s.data.toList.isEmpty=false):=by
    unfold Hid;cases h:s.data.toList with
    |nil=>have:=n.out;rw[h]at this;simp at this;omega
    |cons _ _=>rfl
   have t:=s[k].toNat_lt;obtain⟨c,j⟩:∃c:Int,c=(s[k]|||32).toNat:=⟨_,rfl⟩
   have u:bits BinOp.or IntKind.u8 (s[k].toNat:Int) 32=c:=by
    rw[j,UInt8.toNat_or];exact u8_or_nat _ _ s[k].toNat_lt (by decide)
   have l:=hIx j;clear j;obtain⟨q,r⟩:∃q:Int,q=Lib.indexByte zfV s[k]:=⟨_,rfl⟩
   have b:=hIx r;clear r;go_wp2_with (go_at_call 111;refine(strings_IndexByte _ _ _).mono ?_;rintro e w' ⟨rfl,rfl⟩;rw[zep,show (ByteArray.mk #[33,35,36,37,38,39,42,43,45,46,94,95,124,126,96]).data.toList=zfV from rfl,<-b.out])
   all_goals first
    |(
     go_ret
     exact⟨zaQ (by unfold zec;rw[f.out,a.out,m.out,ZM,zy5 l.out b.out (by omega)];rfl),rfl⟩)
    |(
     try simp only[Bool.not_eq_eq_eq_not,Bool.not_false,QX]at *
     exact⟨⟨k+1,by omega,by go_num,by rw[a.out,m.out,ZM,zwF l.out b.out (by omega)];rfl⟩,by simp[intOf];omega⟩)
    |(
     go_round
     case rel=>exact⟨k+1,by omega,by go_num,by rw[a.out,m.out,ZM,zwF l.out b.out (by omega)];rfl⟩
     case measure=>simp[intOf] <;> omega)
  ·have g:k=s.size:=by omega
   have x:Hid (s.data.toList.all tokB=true):=by
    unfold Hid;rw[a.out,QM (by rw[n.out];omega)];rfl
   clear g
   go_wp2
   go_ret;exact⟨zaQ (by unfold zec;rw[QU,x.out,Bool.and_true]),rfl⟩
def zeq:RowT ByteArray where
 e:=9
 t:=108
 size:=1
 bytes:=16
 z:=.string ByteArray.empty
 cells x:=[.string x]
 hsz _:=rfl
 hpos:=by decide
 under:=underlying108
 info:=by kernel_rfl
 hz:=rfl
 one x u hu:=by
  rw[QF]at hu;rw[hu];rfl
 hbytes:=by decide
theorem zdI(l:List ByteArray):l.flatMap zeq.cells=l.map Value.string:=by
 induction l with
 |nil=>rfl
 |cons a r ih=>rw[QV,ih];rfl
def lowB(p:ByteArray):ByteArray:=bs (zaB p.data.toList)
def mixL(a:List ByteArray)(k:Nat):List ByteArray:=(a.take k).map lowB++a.drop k
theorem zpc(a:List ByteArray)(k:Nat):(mixL a k).length=a.length:=by
 unfold mixL;rw[Qb,Qk,QK,QJ];omega
theorem zma(a:List ByteArray)(k:Nat)(c:k<a.length):(mixL a k)[k]? = some a[k]/\(mixL a k).set k (lowB a[k])=mixL a (k+1):=by
 have hl:((a.take k).map lowB).length=k:=by rw[Qk,QK];omega
 have b:a.drop k=a[k]::a.drop (k+1):=Zb c;refine⟨?_,?_⟩
 ·unfold mixL
  rw[Q1 (by omega),hl,Z8,b];rfl
 ·unfold mixL
  rw[ZO _ _ (by omega),hl,Z8,b,Qg,Qu c,Q2];simp
theorem zuN(a:List ByteArray):mixL a a.length=a.map lowB:=by
 unfold mixL;rw[QR (Qd _),QM (Qd _),QO]
def zbv(a:ByteArray):List ByteArray:=Lib.splitB ⟨#[124]⟩ 0 (Lib.countB a ⟨#[124]⟩) a
def phrW(a:ByteArray):List ByteArray:=(zbv a).map lowB
def phrF(a gb:Nat):Value:=.func (.func 265) #[] #[.pointer a,.pointer gb]
def PhrAt(B:Nat)(ws:List ByteArray)(b gb:Nat)(w:World):Prop:=
 B<=b/\B<=gb/\∃d g cap f e a A c,B<=d/\w.cell? b=some (.slice (some ⟨g,0,none⟩) a.length cap)/\w.cell? gb=some (.slice A ws.length c)/\TreeIs w d ws g cap f e a
def zwK(ws:List ByteArray)(w:World)(e:Ending)(w':World):Prop:=
 w w'/\∃a gb,e=jC (.tuple #[phrF a gb,jA 0])/\PhrAt w.heap.size ws a gb w'
def zzD(w:World)(e:Ending)(w':World):Prop:=
 w w'/\∃a gb,∃r:Nat,0<r/\e=jC (.tuple #[phrF a gb,jA (r:Int)])
theorem zzL{a:List ByteArray}{w:World}{base g:Nat}{k:Nat}(h:OwnG zeq w base (.slice g a.length a.length) (mixL a k))(b:k<a.length):w.cell? ⟨g,k,none⟩=some (.string a[k])/\w.frozen? ⟨g,k,none⟩=false:=by
 have hl:=zpc a k;rw[<-hl]at h;have:=h.at k (by omega) 0 (by decide);rw[show k*zeq.size+0=k by simp[zeq]]at this;obtain⟨h1,_⟩:=zma a k b;rw[Qe (by omega)]at h1;rw[QG h1]at this;exact this
theorem zyh{a:List ByteArray}{w:World}{base g:Nat}{k:Nat}(h:OwnG zeq w base (.slice g a.length a.length) (mixL a k))(c:k<a.length):OwnG zeq (w.setCell ⟨g,k,none⟩ (.string (lowB a[k]))) base (.slice g a.length a.length) (mixL a (k+1)):=by
 have hl:=zpc a k;have b:=h;rw[<-hl]at b;have:=(b.stored k (by omega) 0 (by decide) (.string (lowB a[k])) (lowB a[k]) rfl).1;rw[show k*zeq.size+0=k by simp[zeq],(zma a k c).2,hl]at this;exact this
def RelL(a:List ByteArray)(w:World)(v:Value)(wr:World):Prop:=
 ∃k:Nat,k<=a.length/\v=jA (k:Int)/\OwnG zeq wr w.heap.size (.slice w.heap.size a.length a.length) (mixL a k)/\wr.cell? (w.heap.size+1:)=some (.slice w.heap.size a.length a.length)/\w wr
theorem zj2(a:ByteArray):(zbv a).length=Lib.countB a ⟨#[124]⟩+1:=Z9 ⟨#[124]⟩ (by decide) 0 _ a rfl
theorem zj7(c:UInt8):∀(l:jE),∀x∈splL c l,x.length<=l.length
 | [],x,a=>by
  unfold splL at a;rw[QF]at a;rw[a];exact Qd _
 |b::l,x,a=>by
  have ih:=zj7 c l;unfold splL at a;rw[Qq]
  split at a
  ·rcases QN.1 a with rfl|a
   ·exact Qn _
   ·exact XL (ih x a)
  ·split at a
   ·rw[QF]at a
    rw[a];simp
   ·rename_i y r d
    rcases QN.1 a with rfl|a
    ·rw[Qq]
     have:=ih y (by rw[d];simp);omega
    ·exact XL (ih x (by rw[d];simp[a]))
theorem zlD(a:ByteArray):∀p∈zbv a,p.size<=a.size:=λp b=>by
 have c:p.data.toList∈splL 124 a.data.toList:=by
  rw[<-zb1];exact QS.2 ⟨p,b,rfl⟩
 have:=zj7 124 _ _ c
 simpa using this
theorem znt(a:ByteArray)(w:World)(C:LibOk w)(ha:a.size<=1048576):
 Calls prog 241 #[.string a] w λe w'=>(OkW (phrW a)->zwK (phrW a) w e w')/\(¬OkW (phrW a)->zzD w e w'):=by
 obtain⟨m0,N⟩:=C;have n:=strings_Split a ⟨#[124]⟩ m0 w (by omega) N (by decide);have z:=zj2 a;have Q:=zlD a;rw[<-z]at n;have U:Hid (phrW a=(zbv a).map lowB):=rfl
 change Calls _ _ _ _ λe w'=>e=jC (.slice w.heap.size (zbv a).length (zbv a).length)/\w'=w.alloc (.cells ((zbv a).map Value.string).toArray 9)at n
 generalize phrW a=ws at *;generalize zbv a=b at *;have O:=hIx n
 have I:b.length<=1048577:=by
  have:=Lib.countB_le ⟨#[124]⟩ (by decide) a.size a (Qd _);omega
 have E:OwnG zeq (w.alloc (.cells (b.map Value.string).toArray 9)) w.heap.size (.slice w.heap.size b.length b.length) b:=by
  have:=Xw (base:=w.heap.size) (e:=9) (size:=1) w (b.map Value.string).toArray b.length (Qd _) (by unfold maxLen;omega) (by simp);unfold OwnG;rw[zdI];exact this
 clear n z
 go_in
 go_wp2_with (go_at_call 49;refine O.out.mono ?_;rintro e w1 ⟨rfl,rfl⟩);have L:(w.alloc (.cells (b.map Value.string).toArray 9)).heap.size=w.heap.size+1:=by simp
 go_loopw [12] (λv wr=>RelL b w v wr) (λv _=>b.length-(intOf v).toNat)
 case atStart=>
  refine⟨0,Qn _,rfl,?_,?_,WaL.alloc (by simp) _⟩
  ·have:mixL b 0=b:=by unfold mixL;simp
   rw[this];exact E.below WaL
  ·have:=Qv (w.alloc (.cells (b.map Value.string).toArray 9)) (.cells #[.slice w.heap.size b.length b.length] 108)
   rw[L]at this;exact Qo _ _ 0 _ _ _ this
 case round=>
  obtain⟨k,hk,rfl,q,i,hb⟩:=hrel
  by_cases t:k<b.length
  ·obtain⟨B,J⟩:=zzL q t
   have HO:=hIx q;have u:=hIx hb;have h3:=hIx i;have S:=QT wr _ i;have h0:=Q b[k] (QC t);have H:Hid (Calls prog 116 #[.string b[k]] wr.drew (zbJ (lowB b[k]) wr.drew)):=hIx (zbg b[k] wr.drew (by unfold maxLen;omega))
   have G:Hid (∀w2,wr w2->RelL b w (jA ((k:Int)+1)) (w2.setCell ⟨w.heap.size,k,none⟩ (.string (lowB b[k])))):=hIx λw2 d=>
    ⟨k+1,by omega,rfl,zyh (q.below d) t,(World.cell?_setCell_far _ _ _ _ (by show w.heap.size≠w.heap.size+1;omega)).trans (zaa d i),(hb.trans (d.mono hb.size)).setCell (Qd _) _⟩
   generalize b[k]=x at *;clear q hb;go_wp2_with fail
   go_region_with (first|(go_at_call 116;(with_reducible refine(H.out).mono ?_);rintro e w2 ⟨rfl,s⟩;have d:wr w2:=undrew s;have D:=zaa d B;have F:=zaw d B J;have A:=zaa d i))
   all_goals
    have P:=G.out w2 d;clear D F A d s;go_wp2;exact⟨P,by simp[intOf] <;> omega⟩
  ·have e:k=b.length:=by omega
   rw[e,zuN,<-U.out]at q;clear e;have j:ws.length=b.length:=by rw[U.out,Qk]
   have l:Sl wr wr.heap.size 1 (some ⟨w.heap.size,0,none⟩) b.length (ws.map Value.string):=by
    have h2:=q;rw[<-j]at h2;obtain⟨A5,c5,W,T⟩:=h2.form;injection W with e6 _ _
    subst e6;rw[zdI,j]at T;exact T
   have S:=QT wr _ i;have u:=hIx hb
   by_cases m:OkW ws
   ·have K:=hIx (zuA (c:=b.length) m j l)
    clear q l hb;go_wp2_with (go_at_call 48;refine K.out.mono ?_;rintro e w3 ⟨o,g,cap,Y,X,V,rfl,Z⟩);have y:=zaa o i;have f:=u.out.trans (o.mono u.out.size)
    go_ret2
    refine⟨λ_=>⟨f.alloc f.size _,w3.heap.size,w.heap.size+1,rfl,f.size,Zd _,wr.heap.size,g,cap,Y,X,V,some ⟨w.heap.size,0,none⟩,b.length,u.out.size,Qo _ _ 0 _ _ _ (Qv w3 _),?_,Z.below WaL⟩,λh=>absurd m h⟩;rw[j];exact zaa WaL y
   ·have K:=hIx (zxs (c:=b.length) m j l)
    clear q l hb;go_wp2_with (go_at_call 48;refine K.out.mono ?_;rintro e w3 ⟨o,r,hr,rfl⟩);have f:=u.out.trans (o.mono u.out.size)
    go_ret2
    exact⟨λh=>absurd h m,λ_=>⟨f.alloc f.size _,w3.heap.size,w.heap.size+1,r,hr,rfl⟩⟩
theorem ze8:∀(k u:Nat),u<10 ^ (k+1)->1<=(Lib.decDigits u).length/\(Lib.decDigits u).length<=k+1
 |0,u,h=>by rw[Lib.decDigits,dif_pos (by simpa using h)];simp
 |k+1,u,h=>by
  rw[Lib.decDigits]
  split
  ·simp
  ·have h2:u / 10<10 ^ (k+1):=by
    rw[Nat.div_lt_iff_lt_mul (by decide)];rw[Nat.pow_succ]at h;omega
   have:=ze8 k (u / 10) h2;rw[Qb,QH];omega
abbrev Pair:=ByteArray × ByteArray
def za6(x:Pair):List Value:=[.string x.1,.string x.2]
theorem zgh(l:List Pair):(l.flatMap za6).length=l.length*2:=by
 induction l with
 |nil=>rfl
 |cons x l ih=>rw[QV,Qb,ih];simp only[za6,Qq,QP];omega
theorem zgc(l:List Pair):∀u∈l.flatMap za6,u.oneCell'=true:=λu a=>by
 obtain⟨x,_,h⟩:=List.mem_flatMap.1 a;simp only[za6,QN,Zz,XA]at h
 rcases h with rfl|rfl <;> rfl
theorem zl7:∀(l:List Pair) (k:Nat) (h:k<l.length),(l.flatMap za6)[k*2]? = some (.string l[k].1)/\(l.flatMap za6)[k*2+1]? = some (.string l[k].2)
 | [],k,h=>absurd h (by simp)
 |x::l,0,_=>⟨rfl,rfl⟩
 |x::l,k+1,h=>by
  have:=zl7 l k (by simpa using h);rw[QV,show (k+1)*2=2+k*2 by omega,Q1 (by simp[za6]),show 2+k*2+1=2+(k*2+1)by omega,Q1 (by simp[za6])]
  simpa[za6]using this
def OwnA(w:World)(base:Nat)(v:Value)(l:List Pair):Prop:=w.ownsRow base 279 2 v l.length (l.flatMap za6)
theorem OwnA.nil(w:World)(base:Nat):OwnA w base (jD 0 0) []:=ZH w base 279 2
theorem OwnA.below{w w':World}{base:Nat}{v:Value}{l:List Pair}(h:OwnA w base v l)(hb:w w'):OwnA w' base v l:=zaM h hb
theorem OwnA.keep{w w':World}{base:Nat}{v:Value}{l:List Pair}(h:OwnA w base v l)(b:∀g,v.ownBlock=some g->w'.heap[g]? = w.heap[g]?):OwnA w' base v l:=by
 refine⟨h.1,?_⟩
 rcases h.2 with d|⟨g,cap,a,h1,h2,e,c⟩
 ·exact .inl d
 ·exact .inr ⟨g,cap,a,h1,h2,(b g (by rw[h1];rfl)).trans e,c⟩
theorem OwnA.low{w:World}{base b:Nat}{v:Value}{l:List Pair}(h:OwnA w base v l)(hb:b<=base):OwnA w b v l:=
 ⟨h.1,h.2.imp_right λ⟨g,cap,a,h1,h2,c⟩=>⟨g,cap,a,h1,Ql hb h2,c⟩⟩
theorem OwnA.form{w:World}{base:Nat}{v:Value}{l:List Pair}(h:OwnA w base v l):∃A c,v=.slice A l.length c/\Sl w w.heap.size 2 A l.length (l.flatMap za6):=by
 rcases h.2 with ⟨h1,h2⟩|⟨g,cap,a,h1,hb,e,_⟩
 ·have:l=[]:=QA h2
  subst this;exact⟨none,0,h1,Sl.nil _ _ _ _⟩
 ·refine⟨_,_,h1,zgh l,λd=>⟨g,0,rfl,?_,λj b=>?_⟩⟩
  ·exact(QE h g (by rw[h1];simp[Value.ownBlock])).2
  ·have:=Zq (g:=g) h (by rw[h1];simp[Value.ownBlock]) j _ (Qe b)
   rw[zbd]at this;rw[Ze];exact this
theorem zpa{w:World}{B n:Nat}{A:Option Addr}{l:List Pair}(h:Sl w B 2 A n (l.flatMap za6))(k:Nat)(f:k<l.length):
 ∃b a,A=some ⟨b,a,none⟩/\b<B/\w.cell? ⟨b,a+k*2,none⟩=some (.string l[k].1)/\w.cell? ⟨b,a+k*2+1,none⟩=some (.string l[k].2):=by
 have hl:=zgh l;obtain⟨b,a,e,hb,d⟩:=h.src (by omega);obtain⟨c,h1⟩:=zl7 l k f;refine⟨b,a,e,hb,?_,?_⟩
 ·rw[d (k*2) (by omega)]
  rw[Qe (by omega)]at c;exact c
 ·rw[Zf,d (k*2+1) (by omega)]
  rw[Qe (by omega)]at h1;exact h1
theorem zkN:(prog.info? 279).map (λi=>(i.zero,i.size,i.bytes))=some (some (.agg #[.string ByteArray.empty,.string ByteArray.empty]),2,32):=by kernel_rfl
section
variable {ops:Array Oper} {rest:List Oper} {o:Oper} {a:Act} {Q:Exit->Act->World->Prop} {w:World}
theorem za2(f:o.guard=none)(s x:Operand)(z:o.op=.call {callee:=.builtin .append,args:=#[s,x],argTypes:=#[206,206]})
 (base:Nat) (v:Value) (l:List Pair) (C:a.eval s=v) (d:OwnA w base v l) (b:base<=w.heap.size)
 (n:List Value) (new:Pair) (F:n=za6 new) (q:Nat) (m:w.heap.size=q) (c:Nat) (E:a.eval x=.slice q 1 c)
 (e:l.length<=4194304)
 (h:∀v' w',OwnA w' base v' (l++[new])->Below base w w'->(∀g,g<w.heap.size->v.ownBlock≠some g->w'.heap[g]? = w.heap[g]?)->w.heap.size<w'.heap.size->wpList prog ops Q rest (a.put o.dst v') w'):
 wpList prog ops Q (o::rest) a (w.alloc (.cells n.toArray 279)):=by
 subst F;subst m
 obtain⟨y,D,i,j,k⟩:=ZG zkN
 refine Z3 f λ_ t=>zaT s x 206 z base 279 y _ 2 32 underlying206 D i j k rfl (by decide) v l.length (l.flatMap za6) C d b (za6 new) 1 c E rfl
  (λu A=>zgc [new] u (by simpa using A)) (by unfold maxLen;omega) (by omega) λv' w' h1 h2 B r=>t _ _ (h v' w' (by unfold OwnA;rw[Qb,Q7];simpa using h1) h2 B r)
theorem zcC(t:o.guard=none)(s x:Operand)(H:o.op=.call {callee:=.builtin .append,args:=#[s,x],argTypes:=#[206,206]})
 (base f:Nat) (v u:Value) (l m:List Pair) (I:a.eval s=v) (L:a.eval x=u) (b:OwnA w base v l) (d:OwnA w f u m) (c:base<=w.heap.size)
 (q:l.length+m.length<=4398046511104)
 (h:∀v' w',OwnA w' base v' (l++m)->Below base w w'->(∀g,g<w.heap.size->v.ownBlock≠some g->w'.heap[g]? = w.heap[g]?)->w.heap.size<=w'.heap.size->wpList prog ops Q rest (a.put o.dst v') w'):
 wpList prog ops Q (o::rest) a w:=by
 obtain⟨G,J,A,C,D⟩:=ZG zkN;refine Z3 t λK F=>?_
 rcases d.2 with ⟨r,N⟩|⟨g,cap,S,r,T,W,_⟩
 ·have V:m=[]:=QA N
  subst V;subst r
  have U:=run_append_owned_none (P:=prog) (w:=w) base 206 o.type 279 G 2 underlying206 J v l.length (l.flatMap za6) b;unfold Oper.wp execOp;simp only[H,resolve,invoke,builtin,Xj,Sem.run_pure,ZY,List.map_toArray,Q8,ZE,I,L,U];exact F _ _ (h v w (by rw[QO];exact b) (Qi _ _) (λ_ _ _=>rfl) (Qd _))
 ·have i:∀j z,(m.flatMap za6)[j]? = some z->w.cell? (Addr.add ⟨g,0,none⟩ j)=some z:=λj z O=>Zq (g:=g) d (by rw[r];simp[Value.ownBlock]) j z O
  refine wp_append_own (P:=prog) w s x 206 H base 279 G _ 2 32 underlying206 J A C D rfl (by decide) v l.length (l.flatMap za6) I b ⟨g,0,none⟩ m.length cap (m.flatMap za6) (L.trans r) (zgh m) i (zgc m)
   (by unfold maxLen;omega) (by omega) c ?_
  intro v' w' E n _;exact F _ _ (h v' w' (by unfold OwnA;rw[Qb,Q7];exact E) ((Qi _ _).grown n c (λk B=>(QE b k B).1)) (λk B y=>n.block k B (λe=>y e.symm)) n.size)
end
def qs:jE:=[10,13,9,32,92]
def es:jE:=[110,114,116,115,92,45]
theorem zaY(t:ByteArray)(b:UInt8)(W:World):Calls prog 111 #[.string t,.int .u8 b.toNat] W λe w'=>e=jC (jA (Lib.indexByte t.data.toList b))/\w'=W:=by
 have:=strings_IndexByte t b.toNat W;rw[zep]at this;exact this
theorem zzJ(a b:Int)(e:0<=a)(f:a<=15)(hb:0<=b)(d:b<=15):bits .or .i64 (a*16) b=a*16+b:=by
 obtain⟨a,rfl⟩:=Zs e;obtain⟨b,rfl⟩:=Zs hb;have c:((List.range 16).all λx=>(List.range 16).all λy=>decide (bits .or .i64 ((x:Int)*16) (y:Int)=(x:Int)*16+(y:Int)))=true:=by decide+kernel
 have h1:=Zv.1 c a (ZQ.2 (by omega));exact Zp (Zv.1 h1 b (ZQ.2 (by omega)))
def zjR(c:Int)(o:Option jE):Value:=match o with
 |some l=>.tuple #[.string (bs l),jA 0]
 |none=>.tuple #[.string (bs []),jA c]
def ze1(v:Value)(w:World)(e:Ending)(w':World):Prop:=e=jC v/\w w'
theorem below_drewN{B:Nat}{a w:World}(h:Below B a w)(n:Nat):Below B a (w.drewN n):=⟨h.os,h.tape,h.output,h.size,h.block⟩
theorem OwnB.drewN{w:World}{base:Nat}{v:Value}{l:jE}(h:OwnB w base v l)(n:Nat):OwnB (w.drewN n) base v l:=h
def zj5(step:UInt8->jE->jE × Nat):Nat->jE->jE
 |0,_=>[]
 |_+1,[]=>[]
 |f+1,b::r=>(step b r).1++zj5 step f (r.drop (step b r).2)
def scan(step:UInt8->jE->jE × Nat)(l:jE):jE:=zj5 step l.length l
theorem zm2(step:UInt8->jE->jE × Nat):∀(f g:Nat) (l:jE),l.length<=f->l.length<=g->zj5 step f l=zj5 step g l:=by
 intro f
 induction f with
 |zero=>
  intro g l a _;have:l=[]:=QA (by omega);subst this;cases g <;> rfl
 |succ f ih=>
  intro g l a c;cases l with
  |nil=>cases g <;> rfl
  |cons b r=>
   cases g with
   |zero=>simp at c
   |succ g=>
    simp only[Qq]at a c;unfold zj5;rw[ih g (r.drop (step b r).2) (by rw[QJ];omega) (by rw[QJ];omega)]
theorem zoG(step:UInt8->jE->jE × Nat):scan step []=[]:=rfl
theorem zee(step:UInt8->jE->jE × Nat)(b:UInt8)(r:jE):scan step (b::r)=(step b r).1++scan step (r.drop (step b r).2):=by
 unfold scan;rw[Qq,zj5];rw[zm2 step r.length (r.drop (step b r).2).length (r.drop (step b r).2) (by rw[QJ];omega) (Qd _)]
theorem zxz(step:UInt8->jE->jE × Nat)(c:jE->Prop)(t:jE)
 (h:∀b r,c (b::r)->step b (r++t)=step b r/\(step b r).2<=r.length/\(r.drop (step b r).2=[]\/c (r.drop (step b r).2))):
 ∀(n:Nat) (s:jE),s.length<=n->(s=[]\/c s)->scan step (s++t)=scan step s++scan step t:=by
 intro n
 induction n with
 |zero=>
  intro s hl _;have:s=[]:=QA (by omega);subst this;rfl
 |succ n ih=>
  intro s hl a;cases s with
  |nil=>rfl
  |cons b r=>
   rcases a with d|d
   ·cases d
   ·obtain⟨h1,h2,e⟩:=h b r d
    simp only[Qq]at hl;rw[List.cons_append,zee,h1,zee,Q4,Z0 h2];rw[ih (r.drop (step b r).2) (by rw[QJ];omega) e]
def zc2(l:jE):Int:=
 match l with
 |a::b::_=>if zaA a<0\/zaA b<0 then -1 else zaA a*16+zaA b
 |_=>-1
theorem zjL(a b:UInt8)(r:jE):zc2 (a::b::r)=if zaA a<0\/zaA b<0 then -1 else zaA a*16+zaA b:=rfl
theorem zfj(b:UInt8):-1<=zaA b/\zaA b<=15:=
 Zp (zeg (p:=λb=>decide (-1<=zaA b/\zaA b<=15)) (by decide+kernel) b)
theorem zcZ(l:jE):-1<=zc2 l/\zc2 l<=255/\(0<=zc2 l->2<=l.length):=by
 match l with
 | []=>exact⟨by decide,by decide,λh=>absurd h (by decide)⟩
 | [a]=>exact⟨by simp[zc2],by simp[zc2],λh=>absurd h (by simp[zc2])⟩
 |a::b::r=>
  have h1:=zfj a;have h2:=zfj b;rw[zjL];simp only[Qq]
  split <;> exact⟨by omega,by omega,λ_=>by omega⟩
def zb8(b:UInt8)(r:jE):jE × Nat:=
 if b=43 then ([32],0)else if b=37/\0<=zc2 r then ([UInt8.ofNat (zc2 r).toNat],2)else ([b],0)
def zcj(l:jE):jE:=scan zb8 l
theorem zpO(b:UInt8)(r:jE):(zb8 b r).2<=r.length/\(zb8 b r).1.length=1:=by
 unfold zb8;have h:=(zcZ r).2.2
 split
 ·exact⟨Qn _,rfl⟩
 ·split
  ·rename_i h2;exact⟨h h2.2,rfl⟩
  ·exact⟨Qn _,rfl⟩
def ziw:Nat->jE->Option jE
 |0,_=>some []
 |f+1,l=>if l.length=0 then some []else if zc2 l<0 then none else (ziw f (l.drop 2)).map (UInt8.ofNat (zc2 l).toNat::·)
def zbQ(l:jE):Option jE:=ziw l.length l
theorem zqH:∀(f g:Nat) (l:jE),l.length<=f->l.length<=g->ziw f l=ziw g l:=by
 intro f
 induction f with
 |zero=>
  intro g l b _;cases g with
  |zero=>rfl
  |succ g=>unfold ziw;rw[Qj (by omega)]
 |succ f ih=>
  intro g l b c;cases g with
  |zero=>unfold ziw;rw[Qj (by omega)]
  |succ g=>
   unfold ziw
   by_cases a:l.length=0
   ·rw[Qj a,Qj a]
   ·rw[Qf a,Qf a,ih g _ (by rw[QJ];omega) (by rw[QJ];omega)]
theorem zgw:zbQ []=some []:=rfl
theorem zju(l:jE)(h:0<l.length)(a:zc2 l<0):zbQ l=none:=by
 unfold zbQ;rw[show l.length=l.length-1+1 by omega,ziw,Qf (by omega),Qj a]
theorem ziK(l:jE)(h:0<l.length)(a:¬zc2 l<0):zbQ l=(zbQ (l.drop 2)).map (UInt8.ofNat (zc2 l).toNat::·):=by
 unfold zbQ;rw[show ziw l.length l=ziw (l.length-1+1) l by rw[show l.length-1+1=l.length by omega],ziw,Qf (by omega),Qf a];rw[zqH (l.length-1) (l.drop 2).length _ (by rw[QJ];omega) (Qd _)]
theorem zqw:∀(n:Nat) (l r:jE),l.length<=n->zbQ l=some r->r.length*2=l.length:=by
 intro n
 induction n with
 |zero=>
  intro l r hl h;have:l=[]:=QA (by omega);subst this;rw[zgw]at h;cases h;rfl
 |succ n ih=>
  intro l r hl h
  by_cases b:l.length=0
  ·have:l=[]:=QA b
   subst this;rw[zgw]at h;cases h;rfl
  ·by_cases a:zc2 l<0
   ·rw[zju l (by omega) a]at h;cases h
   ·rw[ziK l (by omega) a]at h
    obtain⟨x,c,rfl⟩:=XG.1 h;have h2:=(zcZ l).2.2 (by omega);have:=ih _ _ (by rw[QJ];omega) c;rw[QJ]at this;simp only[Qq];omega
theorem zhf(s:ByteArray)(i:Int)(h:0<=i)(h1:i<=4611686018427387904)(w:World):
 Calls prog 201 #[.string s,jA i] w λe w'=>e=jC (jA (zc2 (s.data.toList.drop i.toNat)))/\∃n,w'=w.drewN n:=by
 obtain⟨n,rfl⟩:=Zs h;rw[Q9];have y:s.data.toList.length=s.size:=by simp
 by_cases h2:n+2<=s.size
 ·have d:Hid (s.data.toList.drop n=s[n]::s[n+1]::s.data.toList.drop (n+2)):=by
   unfold Hid;rw[zaH s n (by omega),zaH s (n+1) (by omega)]
  have f:=hIx (zjL s[n] s[n+1] (s.data.toList.drop (n+2)));have r:=zfj s[n];have t:=zfj s[n+1];obtain⟨l,c⟩:=r;obtain⟨q,b⟩:=t;have B:(n:Int)<(s.size:Int):=by omega
  have v:(n:Int)+1<(s.size:Int):=by omega
  have z:0<=(n:Int)+1:=by omega
  have A:IntKind.i64.wrap ((n:Int)+1)=(n:Int)+1:=Qz _ (by omega);have x:((n:Int)+1).toNat=n+1:=by omega
  by_cases j:zaA s[n]<0
  ·go_in
   go_wp2_with fail
   go_quiet ((go_at_call 183;exact Za (zdi _ _)))
   go_wp2;go_ret;exact⟨by rw[d.out,f.out,Qj (Or.inl j)];rfl,_,rfl⟩
  ·by_cases u:zaA s[n+1]<0
   ·go_in
    go_wp2_with fail
    go_quiet ((go_at_call 183;exact Za (zdi _ _)))
    go_wp2;go_ret;exact⟨by rw[d.out,f.out,Qj (Or.inr u)];rfl,_,rfl⟩
   ·have k:0<=zaA s[n]:=by omega
    have m:0<=zaA s[n+1]:=by omega
    have o:=zzJ (zaA s[n]) (zaA s[n+1]) k c m b;have a:=hIx (f.out.trans (Qf (by omega)))
    go_in
    go_wp2_with fail
    go_quiet ((go_at_call 183;exact Za (zdi _ _)))
    go_wp2;go_ret;exact⟨by rw[d.out,a.out];rfl,_,rfl⟩
 ·have a:Hid (zc2 (s.data.toList.drop n)=-1):=by
   have g:(s.data.toList.drop n).length<2:=by rw[QJ];omega
   have:=(zcZ (s.data.toList.drop n))
   unfold Hid;omega
  go_in
  go_wp2;go_ret;exact⟨by rw[a.out];rfl,0,rfl⟩
def zzc(s:ByteArray)(w:World)(v i:Value)(wr:World):Prop:=
 ∃(k:Nat) (a:jE),k<=s.size/\i=jA k/\a.length<=k/\OwnB wr w.heap.size v a/\zcj s.data.toList=a++zcj (s.data.toList.drop k)/\w wr
theorem znL(n:Int)(a:0<=n)(h1:n<=255):((UInt8.ofNat n.toNat).toNat:Int)=n:=by
 rw[UInt8.toNat_ofNat',Nat.mod_eq_of_lt (by omega)];omega
theorem zdD(s:ByteArray)(w:World)(X:s.size<=140737488351232):
 Calls prog 185 #[.string s] w (zbJ (bs (zcj s.data.toList)) w):=by
 have J:Hid (s.data.toList.length=s.size):=by unfold Hid;simp
 go_in
 go_wp2
 go_loopw [3,4] (λv i wr=>zzc s w v i wr) (λ_ i _=>s.size-(intOf i).toNat)
 case atStart=>exact⟨0,[],Qn _,rfl,Qd _,OwnB.nil _ _,rfl,Qi _ _⟩
 case round=>
  obtain⟨k,f,W,rfl,K,c,L,l⟩:=hrel;have d:=l.size;have z:=hIx L;clear L
  by_cases E:k<s.size
  ·have D:=hIx (zaH s k E)
   have C:=hIx (zee zb8 s[k] (s.data.toList.drop (k+1)));have O:=s[k].toNat_lt
   by_cases a:s[k]=43
   ·have Q:((s[k].toNat:Int)==43)=true:=by rw[a];decide
    have F:Hid (zb8 s[k] (s.data.toList.drop (k+1))=([32],0)):=by unfold Hid zb8;rw[Qj a]
    clear a;go_wp2_with (at_builtin;refine zag rfl _ _ rfl w.heap.size _ f rfl (by exact c) (by exact d) _ [32] rfl 1 1 rfl rfl (by omega) ?_;intro v' r b a o);exact⟨⟨k+1,f++[32],by omega,by go_num,by simp;omega,b,by rw[z.out,D.out];unfold zcj;rw[C.out,F.out];simp,l.trans a⟩,by simp[intOf];omega⟩
   ·have Q:((s[k].toNat:Int)==43)=false:=Qc.2 (λh=>a (Zr.1 (by show s[k].toNat=43;omega)))
    by_cases j:s[k]=37
    ·have V:((s[k].toNat:Int)==37)=true:=by rw[j];decide
     have y:=zcZ (s.data.toList.drop (k+1));have x:Hid (0<=zc2 (s.data.toList.drop (k+1))->zb8 s[k] (s.data.toList.drop (k+1))=([UInt8.ofNat (zc2 (s.data.toList.drop (k+1))).toNat],2)):=λh=>by unfold zb8;rw[Qf a,Qj ⟨j,h⟩]
     have A:Hid (¬0<=zc2 (s.data.toList.drop (k+1))->zb8 s[k] (s.data.toList.drop (k+1))=([s[k]],0)):=λh=>by unfold zb8;rw[Qf a,Qf (λg=>h g.2)]
     have m:=y.2.2;rw[QJ,J.out]at m;obtain⟨r1,r2,_⟩:=y;obtain⟨n,G⟩:∃n,zc2 (s.data.toList.drop (k+1))=n:=⟨_,rfl⟩
     rw[G]at x A m r1 r2;have N:=hIx G;have S:=hIx j;clear G a j;have u:((k:Int)+1).toNat=k+1:=by omega
     have t:=hIx u;clear u
     by_cases B:0<=n
     ·have I:=m B
      have q:=hIx (x.out B);have T:=hIx (znL n B r2);have H:Hid ([Value.int .u8 n]=[UInt8.ofNat n.toNat].map zd1):=by unfold Hid zd1;simp only[Q8,ZE];rw[T.out]
      clear m;go_wp2_with (first|(go_at_call 201;refine(zhf _ _ (by omega) (by omega) _).mono ?_;rintro e r ⟨rfl,nq,rfl⟩;rw[t.out,N.out])|(at_builtin;refine zag rfl _ _ rfl w.heap.size _ f rfl (by exact c.drewN _) (by exact d) _ [UInt8.ofNat n.toNat] H.out 1 1 rfl rfl (by omega) ?_;intro v' r b a o));exact⟨⟨k+3,f++[UInt8.ofNat n.toNat],by omega,by first|go_num|(congr 1;omega),by simp;omega,b,by rw[z.out,D.out];unfold zcj;rw[C.out,q.out,Zw];simp,(below_drewN l _).trans a⟩,by simp[intOf];omega⟩
     ·have q:=hIx (A.out B)
      clear m;go_wp2_with (first|(go_at_call 201;refine(zhf _ _ (by omega) (by omega) _).mono ?_;rintro e r ⟨rfl,nq,rfl⟩;rw[t.out,N.out])|(at_builtin;refine zag rfl _ _ rfl w.heap.size _ f rfl (by exact c.drewN _) (by exact d) _ [s[k]] rfl 1 1 rfl rfl (by omega) ?_;intro v' r b a o));exact⟨⟨k+1,f++[s[k]],by omega,by go_num,by simp;omega,b,by rw[z.out,D.out];unfold zcj;rw[C.out,q.out];simp,(below_drewN l _).trans a⟩,by simp[intOf];omega⟩
    ·have V:((s[k].toNat:Int)==37)=false:=Qc.2 (λh=>j (Zr.1 (by show s[k].toNat=37;omega)))
     have F:Hid (zb8 s[k] (s.data.toList.drop (k+1))=([s[k]],0)):=by unfold Hid zb8;rw[Qf a,Qf (λg=>j g.1)]
     clear a j;go_wp2_with (at_builtin;refine zag rfl _ _ rfl w.heap.size _ f rfl (by exact c) (by exact d) _ [s[k]] rfl 1 1 rfl rfl (by omega) ?_;intro v' r b a o);exact⟨⟨k+1,f++[s[k]],by omega,by go_num,by simp;omega,b,by rw[z.out,D.out];unfold zcj;rw[C.out,F.out];simp,l.trans a⟩,by simp[intOf];omega⟩
  ·have U:=c.string
   have P:Hid (zcj s.data.toList=f):=by unfold Hid;rw[z.out,QM (by rw[J.out];omega)];unfold zcj;rw[zoG,QO]
   clear c;go_wp2;go_ret;exact⟨by rw[P.out];rfl,l⟩
attribute [go_sem] results154
def argP(x:jE):Pair:=(bs (zcj (Lib.cut x [61]).1),bs (zcj (Lib.cut x [61]).2.1))
def accP(a:List jE):List Pair:=(a.filter λx=>!x.isEmpty).map argP
def zcU(l:jE):List Pair:=accP (splL 38 l)
theorem zrv(l:jE):(zcU l).length<=l.length:=by
 unfold zcU accP;rw[Qk];exact zuh 38 l
theorem zsw(a:List jE)(k:Nat)(h:k<a.length):accP (a.take (k+1))=accP (a.take k)++(if a[k].isEmpty then []else [argP a[k]]):=by
 unfold accP;rw[Qu h,ZR,Q2]
 congr 1
 cases a[k]with
 |nil=>rfl
 |cons b x=>rfl
theorem zrn(a:List jE)(k:Nat):(accP (a.take k)).length<=(accP a).length:=by
 unfold accP;rw[Qk,Qk];exact((List.take_sublist k a).filter _).length_le
theorem zv6(a:List jE):accP (a.take a.length)=accP a:=by rw[Q0]
theorem zfs{B n:Nat}{W w':World}(hb:Below B (W.drewN n) w'):Below B W w':=⟨hb.os,hb.tape,hb.output,hb.size,hb.block⟩
def zxk(a:List jE)(most:Int)(w b:World)(v i:Value)(wr:World):Prop:=
 ∃k:Nat,k<=a.length/\i=jA k/\OwnA wr (w.heap.size+1) v (accP (a.take k))/\Hid ((accP (a.take k)).length<=most.toNat)/\Below (w.heap.size+1) b wr
def zpg(l:jE)(w:World)(e:Ending)(w':World):Prop:=
 ∃v,e=jC (.tuple #[v,jA 0])/\OwnA w' w.heap.size v (zcU l)/\w w'
def zel(most:Int)(l:jE)(w:World)(e:Ending)(w':World):Prop:=
 ((zcU l).length<=most.toNat/\zpg l w e w')\/(most.toNat<(zcU l).length/\e=jC (.tuple #[jD 0 0,jA 2])/\w w')
theorem zoI(s:ByteArray)(most:Int)(w:World)(H:LibOk w)(hs:s.size<=4194304):
 Calls prog 154 #[.string s,jA most] w (zel most s.data.toList w):=by
 obtain⟨m0,D⟩:=H;have hj:0<w.heap.size:=QT w _ D;have r:=strings_Split s ⟨#[38]⟩ m0 w (by omega) D (by decide);have E:=zb1 38 s;have l:=Z9 ⟨#[38]⟩ (by decide) 0 _ s rfl;generalize Lib.splitB ⟨#[38]⟩ 0 (Lib.countB s ⟨#[38]⟩) s=d at r E l;generalize Lib.countB s ⟨#[38]⟩=n at r l;rw[<-l]at r;have O:=hIx E;have K:=hIx r;clear E r l
 go_in
 go_wp2_with fail;refine K.out.mono ?_;rintro e G ⟨rfl,o⟩
 have y:∀W,Below (w.heap.size+1) G W->∀j (h:j<d.length),W.cell? ⟨w.heap.size,j,none⟩=some (.string d[j]):=λW hb j h=>by
  have h9:Below (w.alloc (.cells (d.map Value.string).toArray 9)).heap.size (w.alloc (.cells (d.map Value.string).toArray 9)) W:=by rw[<-o];rw[o];rw[o]at hb;simpa using hb
  rw[zar h9 j];simp[h]
 have T:G.heap.size=w.heap.size+1:=by rw[o];simp
 have t:w G:=by rw[o];exact WaL
 have Y:∀W,Below (w.heap.size+1) G W->W.cell? (0:)=some (jA m0):=λW hb=>((t.trans (hb.mono (Zd _))).cell (p:=⟨0,0,none⟩) hj).trans D
 have l:(splL 38 s.data.toList).length=d.length:=by rw[<-O.out,Qk]
 have I:s.data.toList.length=s.size:=by simp
 have hq:d.length<=4194305:=by have:=zdL 38 s.data.toList;omega
 have hh:=hIx y;have h3:=hIx Y;have C:=hIx t;have g:=hIx l;have Q:=hIx I;have U:w.heap.size+1<=G.heap.size:=Nat.le_of_eq T.symm;clear y Y t l I o T K;go_wp2
 go_loopw [6,15] (λv i wr=>zxk (splL 38 s.data.toList) most w G v i wr) (λ_ i _=>d.length-(intOf i).toNat)
 case atStart=>exact⟨0,Qn _,rfl,OwnA.nil _ _,Qn _,Qi _ _⟩
 case round=>
  obtain⟨k,hk,rfl,Z,B,N⟩:=hrel;rw[g.out]at hk;have q:w.heap.size+1<=wr.heap.size:=Ql U N.size;have ho:=zrn (splL 38 s.data.toList) k
  have hm:(accP (splL 38 s.data.toList)).length<=4194304:=by
   have:=zrv s.data.toList;rw[Q.out]at this;exact Ql this hs
  obtain⟨A,c,rfl,_⟩:=Z.form;have HO:=hIx Z;have S:=hIx N
  by_cases u:k<d.length
  ·have i7:IntKind.i64.wrap ((k:Int)+1)=(k:Int)+1:=Qz _ (by omega)
   have d1:decide ((k:Int)<(d.length:Int))=true:=by simp;omega
   have hc:=hh.out wr N k u;have z:=hIx (zsw (splL 38 s.data.toList) k (by rw[g.out];exact u))
   have HX:Hid (d[k].data.toList=(splL 38 s.data.toList)[k]'(by rw[g.out];exact u)):=by
    unfold Hid;have:=O.out;simp only[<-this,Zo]
   have he:d[k].size<=s.size:=by
    have h1:=zbY 38 s.data.toList _ (QC (by rw[g.out];exact u));rw[<-HX.out]at h1;rw[Q.out]at h1;exact h1
   rw[<-HX.out]at z;generalize d[k]=x at hc HX z he;clear Z N;cases f:x.data.toList.isEmpty with
   |true=>
    have qx:x.toList.isEmpty=true:=by rw[QU];exact f
    have a:Hid (accP ((splL 38 s.data.toList).take (k+1))=accP ((splL 38 s.data.toList).take k)):=by unfold Hid;rw[z.out,Qj f,QO]
    clear f;go_wp2;exact⟨⟨k+1,by rw[g.out];omega,rfl,by rw[a.out];exact HO.out,by rw[a.out];exact B,S.out⟩,by dsimp only[intOf];omega⟩
   |false=>
    have qx:x.toList.isEmpty=false:=by rw[QU];exact f
    have a:Hid (accP ((splL 38 s.data.toList).take (k+1))=accP ((splL 38 s.data.toList).take k)++[argP x.data.toList]):=by unfold Hid;rw[z.out,Qf (by rw[f];decide)]
    have J:=zrn (splL 38 s.data.toList) (k+1);rw[a.out,Qb,QH]at J
    by_cases b:most<=((accP ((splL 38 s.data.toList).take k)).length:Int)
    ·have d2:decide (most<=((accP ((splL 38 s.data.toList).take k)).length:Int))=true:=Qx b
     have HP:Hid (zel most s.data.toList w (jC (.tuple #[jD 0 0,jA 2])) wr):=.inr ⟨by show most.toNat<(accP (splL 38 s.data.toList)).length;omega,rfl,C.out.trans (S.out.mono (Zd _))⟩;clear f b;go_wp2;exact zad HP.out
    ·have d2:decide (most<=((accP ((splL 38 s.data.toList).take k)).length:Int))=false:=Qt b
     have h6:Hid ((accP ((splL 38 s.data.toList).take k)).length+1<=most.toNat):=by unfold Hid;omega
     clear b;have hcut:=strings_Cut x ⟨#[61]⟩ m0 wr (by omega) (h3.out wr S.out);have y:=zcP x.data.toList [61];have h5:x.data.toList.length=x.size:=by simp
     have hi:=hIx hcut;have X:(Lib.cut x.data.toList [61]).1.length<=4194304:=by omega
     have L:(Lib.cut x.data.toList [61]).2.1.length<=4194304:=by omega
     have hd:=hIx X;have h8:=hIx L;clear f hcut y h5 X L;go_wp2_with fail;refine hi.out.mono ?_;rintro e w2 ⟨rfl,nq,rfl⟩;go_wp2_with fail;refine(zdD (bs (Lib.cut x.data.toList [61]).1) (wr.drewN nq) (by rw[zah];have:=hd.out;omega)).mono ?_;rintro e w3 ⟨rfl,F⟩;rw[zam];go_wp2_with fail;refine(zdD (bs (Lib.cut x.data.toList [61]).2.1) w3 (by rw[zah];have:=h8.out;omega)).mono ?_;rintro e P ⟨rfl,V⟩;rw[zam];have m:wr P:=zfs (F.trans (V.mono F.size));have ha:OwnA P (w.heap.size+1) (.slice A (accP ((splL 38 s.data.toList).take k)).length c) (accP ((splL 38 s.data.toList).take k)):=HO.out.below m;have hg:w.heap.size+1<=P.heap.size:=Ql q m.size;have h7:Below (w.heap.size+1) G P:=S.out.trans (m.mono q);clear F V m
     have h4:(accP ((splL 38 s.data.toList).take k)).length<=4194304:=by
      omega
     go_wp2_with (at_builtin;refine za2 rfl (.tmp 31) (.tmp 37) rfl (w.heap.size+1) (.slice A (accP ((splL 38 s.data.toList).take k)).length c) (accP ((splL 38 s.data.toList).take k)) rfl ha hg _ (argP x.data.toList) rfl P.heap.size rfl 1 rfl h4 ?_;intro v5 w5 h0 hf hp hn);exact⟨⟨k+1,by rw[g.out];omega,rfl,by rw[a.out];exact h0,by rw[a.out,Qb];exact h6.out,h7.trans hf⟩,by dsimp only[intOf];omega⟩
  ·obtain rfl:k=d.length:=by omega
   have d1:decide ((d.length:Int)<(d.length:Int))=false:=by simp
   have HE:Hid (accP ((splL 38 s.data.toList).take d.length)=zcU s.data.toList):=by unfold Hid;rw[<-g.out,zv6];rfl
   clear Z N;go_wp2_with fail;refine QD (v:=.tuple #[_,jA 0]) (by simp[results,results154,go_sem];rfl) rfl (.inl ⟨by rw[<-HE.out];exact B.out,_,rfl,?_,C.out.trans (S.out.mono (Zd _))⟩);have:=HO.out.low (Zd w.heap.size);rw[HE.out]at this;rw[HE.out];exact this
