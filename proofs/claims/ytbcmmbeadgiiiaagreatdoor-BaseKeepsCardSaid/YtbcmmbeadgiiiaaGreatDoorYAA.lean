set_option linter.all false
namespace Go.Proofs.YtbcmmbeadgiiiaaGreatDoor
set_option maxRecDepth 100000
set_option maxHeartbeats 16000000
variable{h l:List Nat}{f:Nat->List Nat->List Nat}
def bs(s:ByteArray):List Nat:=s.data.toList.map UInt8.toNat
def uu(l:List Nat):ByteArray:=⟨(l.map UInt8.ofNat).toArray⟩
def Bytes(l:List Nat):Prop:=∀x∈l,x<256
def ry(s:ByteArray):(bs s).length=s.size:=by rw[bs,List.length_map,Array.length_toList];rfl
def yE(s:ByteArray):Bytes (bs s):=by intro x hx;simp only[bs,List.mem_map]at hx;obtain⟨u,_,rfl⟩:=hx;exact u.toNat_lt
def ziY(s:ByteArray):uu (bs s)=s:=by
 have:(bs s).map UInt8.ofNat=s.data.toList:=by
  simp only[bs,List.map_map]
  conv=>rhs;rw[<-List.map_id s.data.toList]
  apply List.map_congr_left;intro a _;simp
 simp[uu,this]
def rM(h:Bytes l):bs (uu l)=l:=by
 simp only[bs,uu,List.map_map]
 conv=>rhs;rw[<-List.map_id l]
 apply List.map_congr_left;intro a ha;have:=h a ha;simp[Nat.mod_eq_of_lt this]
def xJ{s t:ByteArray}(h:bs s=bs t):s=t:=by rw[<-ziY s,<-ziY t,h]
def rH(l:List Nat):(uu l).size=l.length:=by rw[<-ry,bs,List.length_map,uu];simp
def xZ(s:ByteArray)(i:Nat)(h:i<s.size):(bs s).getD i 0=s[i].toNat:=by have h':i<s.data.size:=h;have e:s[i]=s.data[i]:=rfl;rw[e,List.getD_eq_getElem?_getD,bs,List.getElem?_map,Array.getElem?_toList,Array.getElem?_eq_getElem h'];rfl
def N7(s:ByteArray)(i:Nat):(bs s).getD i 0<256:=by
 by_cases h:i<s.size
 ·rw[xZ s i h];exact s[i].toNat_lt
 rw[List.getD_eq_getElem?_getD,List.getElem?_eq_none (by rw[ry];omega)];simp
def rQ(s:ByteArray)(a b:Nat):bs (s.extract a b)=((bs s).drop a).take (b-a):=by
 have:(s.extract a b).data.toList=(s.data.toList.drop a).take (b-a):=by rw[ByteArray.data_extract,Array.toList_extract]
 rw[bs,this,List.map_take,List.map_drop];rfl
def tX(s t:ByteArray):bs (s++t)=bs s++bs t:=by simp[bs]
def ND(h:Bytes l)(i:Nat):l.getD i 0<256:=by
 rw[List.getD_eq_getElem?_getD];cases hx:l[i]? with
 | none=>simp
 | some x=>exact h x (List.mem_of_getElem? hx)
def zje(a b:List Nat):uu a++uu b=uu (a++b):=by apply ByteArray.ext;simp[uu]
def zo(h:Bytes l)(n:Nat):Bytes (l.take n):=λx hx=>h x (List.mem_of_mem_take hx)
def NF(h:Bytes l)(n:Nat):Bytes (l.drop n):=λx hx=>h x (List.mem_of_mem_drop hx)
def vg{a b:List Nat}(h:Bytes a)(k:Bytes b):Bytes (a++b):=λx hx=>(List.mem_append.1 hx).elim (h x) (k x)
def rotl(x n:Nat):Nat:=(x*2^n % 4294967296)|||(x/2^(32-n))
def yA(l:List Nat)(i j:Nat):List Nat:=l.set i ((l.getD i 0+l.getD j 0) % 4294967296)
def BG(l:List Nat)(i j n:Nat):List Nat:=l.set i (rotl (l.getD i 0^^^l.getD j 0) n)
def qr(l:List Nat)(a b c d:Nat):List Nat:=
 let l:=BG (yA l a b) d a 16
 let l:=BG (yA l c d) b c 12
 let l:=BG (yA l a b) d a 8
 BG (yA l c d) b c 7
def times{α:Type}(f:Nat->α->α):Nat->α->α
 | 0,x=>x
 | n+1,x=>f n (times f n x)
def col(i:Nat)(l:List Nat):List Nat:=qr l i (4+i) (8+i) (12+i)
def dia(i:Nat)(l:List Nat):List Nat:=qr l i (4+(i+1) % 4) (8+(i+2) % 4) (12+(i+3) % 4)
def dbl(_:Nat)(l:List Nat):List Nat:=times dia 4 (times col 4 l)
def GH(l:List Nat)(i:Nat):Nat:=l.getD i 0+256*l.getD (i+1) 0+65536*l.getD (i+2) 0+16777216*l.getD (i+3) 0
def ziZ:List Nat:= [1634760805,857760878,2036477234,1797285236,0,0,0,0,0,0,0,0,0,0,0,0]
def keyed(key:List Nat)(k:Nat):List Nat:=times (λi l=>l.set (4+i) (GH key (4*i))) k ziZ
def Ia(l qH:List Nat)(k:Nat):List Nat:=times (λi l=>l.set (13+i) (GH qH (4*i))) k l
def start(key:List Nat)(n:Nat)(qH:List Nat):List Nat:=Ia ((keyed key 8).set 12 (n % 4294967296)) qH 3
def TM(x:Nat):List Nat:= [x % 256,x/256 % 256,x/65536 % 256,x/16777216 % 256]
def C9(t s:List Nat)(k:Nat):List Nat:=times (λi b=>b++TM ((t.getD i 0+s.getD i 0) % 4294967296)) k []
def block(key:List Nat)(n:Nat)(qH:List Nat):List Nat:=
 let s:=start key n qH
 C9 (times dbl 10 s) s 16
def JY(key qH:List Nat)(i:Nat):Nat:=(block key (1+i/64) qH).getD (i % 64) 0
def YY(key qH:List Nat)(i:Nat)(l:List Nat):List Nat:=l.set i (l.getD i 0^^^JY key qH i)
def yN(key qH s:List Nat)(k:Nat):List Nat:=times (YY key qH) k s
def xor(key qH s:List Nat):List Nat:=yN key qH s s.length
def uA{α:Type}(f:Nat->α->α)(n:Nat)(x:α):times f (n+1) x=f n (times f n x):=rfl
def CG(key qH s:List Nat)(k:Nat):(yN key qH s k).length=s.length:=by
 induction k with
 | zero=>rfl
 | succ k ih=>unfold yN at*;rw[uA,YY,List.length_set,ih]
def zaC(key qH s:List Nat)(k i:Nat):(yN key qH s k).getD i 0=if i<k∧i<s.length then s.getD i 0^^^JY key qH i else s.getD i 0:=by
 induction k with
 | zero=>simp[yN,times]
 | succ k ih=>
  have e:yN key qH s (k+1)=(yN key qH s k).set k ((yN key qH s k).getD k 0^^^JY key qH k):=rfl;rw[e,List.getD_eq_getElem?_getD,List.getElem?_set];by_cases hik:k=i
  ·subst hik;rw[if_pos rfl,CG];have ek:(yN key qH s k).getD k 0=s.getD k 0:=by rw[ih,if_neg (by omega)]
   by_cases hl:k<s.length
   ·rw[if_pos hl,if_pos ⟨by omega,hl⟩,ek];rfl
   rw[if_neg hl,if_neg (λh=>hl h.2),List.getD_eq_getElem?_getD,List.getElem?_eq_none (by omega)]
  rw[if_neg hik,<-List.getD_eq_getElem?_getD,ih];by_cases hl:i<s.length
  ·by_cases hi:i<k
   ·rw[if_pos ⟨hi,hl⟩,if_pos ⟨by omega,hl⟩]
   rw[if_neg (λh=>hi h.1),if_neg (λh=>by omega)]
  rw[if_neg (λh=>hl h.2),if_neg (λh=>hl h.2)]
def Eh(key qH s:List Nat):(xor key qH s).length=s.length:=CG _ _ _ _
def zgr(key qH s:List Nat)(i:Nat)(h:i<s.length):(xor key qH s).getD i 0=s.getD i 0^^^JY key qH i:=by unfold xor;rw[zaC,if_pos ⟨h,h⟩]
def CX(x n:Nat):Nat:=(x/2^n)|||(x*2^(32-n) % 4294967296)
def zlw(x:Nat):Nat:=CX x 2^^^CX x 13^^^CX x 22
def zlv(x:Nat):Nat:=CX x 6^^^CX x 11^^^CX x 25
def zek(x:Nat):Nat:=CX x 7^^^CX x 18^^^(x/2^3)
def zej(x:Nat):Nat:=CX x 17^^^CX x 19^^^(x/2^10)
def chs(e f g:Nat):Nat:=(e&&&f)^^^((4294967295-e)&&&g)
def maj(a b c:Nat):Nat:=(a&&&b)^^^(a&&&c)^^^(b&&&c)
def zeG{a b:Nat}(h:∀i,a.testBit i=b.testBit i):a=b:=Nat.eq_of_testBit_eq h
def zdM(e i:Nat)(he:e<4294967296):(4294967295-e).testBit i=(decide (i<32)&& !e.testBit i):=by
 have:=Nat.testBit_two_pow_sub_succ (n:=32) (x:=e) he i;rw[<-this]
 congr 1
 omega
def zar(e i:Nat)(he:e<4294967296)(hi:¬i<32):e.testBit i=false:=
 Nat.testBit_lt_two_pow (Nat.lt_of_lt_of_le he (show 2^32<=2^i from Nat.pow_le_pow_right (by omega) (by omega)))
def zr0(e f g:Nat)(he:e<4294967296)(hg:g<4294967296):g^^^(e&&&(f^^^g))=chs e f g:=by
 refine zeG λi=> ?_;simp only[chs,Nat.testBit_xor,Nat.testBit_and,zdM e i he];by_cases hi:i<32
 ·simp only[hi,decide_true,Bool.true_and];cases e.testBit i<;>cases f.testBit i<;>cases g.testBit i<;>rfl
 rw[zar e i he hi,zar g i hg hi];simp
def zrM(a b c:Nat):(a&&&b)|||(c&&&(a|||b))=maj a b c:=by refine zeG λi=> ?_;simp only[maj,Nat.testBit_xor,Nat.testBit_and,Nat.testBit_or];cases a.testBit i<;>cases b.testBit i<;>cases c.testBit i<;>rfl
def zpp(x n:Nat)(hx:x<4294967296)(hn:n<=32):x/2^n+x*2^(32-n) % 4294967296=CX x n:=by
 have e:4294967296=2^(32-n)*2^n:=by rw[<-Nat.pow_add,show 32-n+n=32 by omega]
 have h1:x*2^(32-n) % 4294967296=2^(32-n)*(x % 2^n):=by rw[e,Nat.mul_comm x,Nat.mul_mod_mul_left]
 have h2:x/2^n<2^(32-n):=by rw[Nat.div_lt_iff_lt_mul (Nat.two_pow_pos n),<-e];exact hx
 rw[CX,h1,Nat.add_comm,Nat.or_comm,Nat.two_pow_add_eq_or_of_lt h2]
def MS(x n:Nat)(hx:x<4294967296):CX x n<4294967296:=
 Nat.or_lt_two_pow (n:=32) (Nat.lt_of_le_of_lt (Nat.div_le_self _ _) hx) (Nat.mod_lt _ (by omega))
def zed(l:List Nat)(i:Nat):Nat:=16777216*l.getD i 0+65536*l.getD (i+1) 0+256*l.getD (i+2) 0+l.getD (i+3) 0
def Ef(s:List Nat)(k:Nat):List Nat:=times (λi w=>w.set i (zed s (4*i))) k (List.replicate 64 0)
def KI(j:Nat)(w:List Nat):List Nat:=
 w.set (16+j) ((w.getD j 0+zek (w.getD (1+j) 0)+w.getD (9+j) 0+zej (w.getD (14+j) 0)) % 4294967296)
def BJ(s:List Nat)(k:Nat):List Nat:=times KI k (Ef s 16)
def sched(s:List Nat):List Nat:=BJ s 48
def xK:List Nat:= [
 1116352408,1899447441,3049323471,3921009573,961987163,1508970993,2453635748,2870763221,3624381080,310598401,607225278,1426881987,1925078388,2162078206,2614888103,3248222580,
 3835390401,4022224774,264347078,604807628,770255983,1249150122,1555081692,1996064986,2554220882,2821834349,2952996808,3210313671,3336571891,3584528711,113926993,338241895,
 666307205,773529912,1294757372,1396182291,1695183700,1986661051,2177026350,2456956037,2730485921,2820302411,3259730800,3345764771,3516065817,3600352804,4094571909,275423344,
 430227734,506948616,659060556,883997877,958139571,1322822218,1537002063,1747873779,1955562222,2024104815,2227730452,2361852424,2428436474,2756734187,3204031479,3329325298]
def vO:List Nat:= [1779033703,3144134277,1013904242,2773480762,1359893119,2600822924,528734635,1541459225]
def znH(w:List Nat)(i:Nat)(v:List Nat):List Nat:=
 let one:=(v.getD 7 0+zlv (v.getD 4 0)+chs (v.getD 4 0) (v.getD 5 0) (v.getD 6 0)+xK.getD i 0+w.getD i 0) % 4294967296
 let two:=(zlw (v.getD 0 0)+maj (v.getD 0 0) (v.getD 1 0) (v.getD 2 0)) % 4294967296
 [(one+two) % 4294967296,v.getD 0 0,v.getD 1 0,v.getD 2 0,(v.getD 3 0+one) % 4294967296,v.getD 4 0,v.getD 5 0,v.getD 6 0]
def AX(w h:List Nat)(k:Nat):List Nat:=times (znH w) k h
def FO(v h:List Nat)(k:Nat):List Nat:=times (λi h=>h.set i ((h.getD i 0+v.getD i 0) % 4294967296)) k h
def compress(h s:List Nat):List Nat:=FO (AX (sched s) h 64) h 8
def OI(n:Nat):Nat:=(119-n % 64) % 64
def uz(n:Nat):Nat->List Nat
 | 0=> []
 | k+1=>uz n k++ [n/2^(8*(7-k)) % 256]
def sS(n:Nat):List Nat:=uz n 8
def Ae(s:List Nat):List Nat:=s++ [128]++List.replicate (OI s.length) 0++sS (8*s.length)
def vZ(p:List Nat)(k:Nat):List Nat:=times (λi h=>compress h ((p.drop (64*i)).take 64)) k vO
def zes(x:Nat):List Nat:= [x/16777216 % 256,x/65536 % 256,x/256 % 256,x % 256]
def uO(h:List Nat)(k:Nat):List Nat:=times (λi b=>b++zes (h.getD i 0)) k []
def sha(s:List Nat):List Nat:=uO (vZ (Ae s) ((Ae s).length/64)) 8
def rG(kind:Nat)(parts:List (List Nat)):List Nat:=parts.foldl (λs p=>s++sS p.length++p) [kind]
def mark(kind:Nat)(parts:List (List Nat)):List Nat:=(sha (rG kind parts)).take 16
def KF(hf:∀i l,(f i l).length=l.length)(k:Nat)(l:List Nat):(times f k l).length=l.length:=by
 induction k with
 | zero=>rfl
 | succ k ih=>rw[uA,hf,ih]
def SC(s:List Nat)(k:Nat):(Ef s k).length=64:=by rw[Ef,KF (λi l=>by rw[List.length_set]),List.length_replicate]
def Np(s:List Nat)(k:Nat):(BJ s k).length=64:=by rw[BJ,KF (λi l=>by rw[KI,List.length_set]),SC]
def zaJ(w h:List Nat)(hh:h.length=8)(k:Nat):(AX w h k).length=8:=by
 cases k with
 | zero=>exact hh
 | succ k=>rw[AX,uA];rfl
def WN(v h:List Nat)(k:Nat):(FO v h k).length=h.length:=KF (λi l=>by rw[List.length_set]) k h
def zfn(h s:List Nat):(compress h s).length=h.length:=WN _ _ _
def GX(p:List Nat)(k:Nat):(vZ p k).length=8:=by rw[vZ,KF (λi l=>zfn _ _)];rfl
def tu(n k:Nat):(uz n k).length=k:=by
 induction k with
 | zero=>rfl
 | succ k ih=>rw[uz,List.length_append,ih];rfl
def SS(s:List Nat):(Ae s).length=s.length+9+OI s.length:=by simp only[Ae,List.length_append,List.length_replicate,sS,tu,List.length_cons,List.length_nil];omega
def za2(s:List Nat):(Ae s).length % 64=0:=by rw[SS,OI];omega
def GR(h:List Nat)(k:Nat):(uO h k).length=4*k:=by
 induction k with
 | zero=>rfl
 | succ k ih=>rw[uO,uA,List.length_append,<-uO,ih];simp[zes];omega
def Ei(s:List Nat):(sha s).length=32:=GR _ _
def CW(l:List Nat):Prop:=∀i,l.getD i 0<4294967296
def CW.set(h:CW l)(i v:Nat)(hv:v<4294967296):CW (l.set i v):=by
 intro k;have:=h k;simp only[List.getD_eq_getElem?_getD,List.getElem?_set]at*;split
 ·split<;>simp<;>omega
 exact this
def CW.times(hf:∀i l,CW l->CW (f i l))(k:Nat)(h:CW l):CW (times f k l):=by
 induction k with
 | zero=>exact h
 | succ k ih=>exact hf _ _ ih
def CW.step(w:List Nat)(i:Nat){v:List Nat}(h:CW v):CW (znH w i v):=by
 intro k;unfold znH
 match k with
 | 0=>exact Nat.mod_lt _ (by omega)
 | 1=>exact h 0
 | 2=>exact h 1
 | 3=>exact h 2
 | 4=>exact Nat.mod_lt _ (by omega)
 | 5=>exact h 4
 | 6=>exact h 5
 | 7=>exact h 6
 | k+8=>simp
def CW.steps(w:List Nat)(hh:CW h)(k:Nat):CW (AX w h k):=CW.times (λi _ h=>h.step w i) k hh
def CW.FO(v:List Nat)(hh:CW h)(k:Nat):CW (FO v h k):=CW.times (λ_ _ h=>h.set _ _ (Nat.mod_lt _ (by omega))) k hh
def CW.compress(s:List Nat)(hh:CW h):CW (compress h s):=CW.FO _ hh _
def CW.vO:CW vO:=by
 intro i;by_cases hi:i<8
 ·rcases(show i=0∨i=1∨i=2∨i=3∨i=4∨i=5∨i=6∨i=7 by omega)with rfl|rfl|rfl|rfl|rfl|rfl|rfl|rfl<;>decide
 rw[List.getD_eq_getElem?_getD,List.getElem?_eq_none (by show 8<=i;omega)];decide
def CW.blocks(p:List Nat)(k:Nat):CW (vZ p k):=CW.times (λ_ _ h=>h.compress _) k CW.vO
def zr5(s:List Nat)(hs:∀i,s.getD i 0<256)(i:Nat):zed s i<4294967296:=by have h0:=hs i;have h1:=hs (i+1);have h2:=hs (i+2);have h3:=hs (i+3);unfold zed;omega
def CW.zxZ(n:Nat):CW (List.replicate n 0):=by intro i;rw[List.getD_eq_getElem?_getD,List.getElem?_replicate];split<;>simp
def CW.Ef(s:List Nat)(hs:∀i,s.getD i 0<256)(k:Nat):CW (Ef s k):=CW.times (λ_ _ h=>h.set _ _ (zr5 s hs _)) k (CW.zxZ 64)
def CW.BJ(s:List Nat)(hs:∀i,s.getD i 0<256)(k:Nat):CW (BJ s k):=CW.times (λ_ _ h=>h.set _ _ (Nat.mod_lt _ (by omega))) k (CW.Ef s hs 16)
def OE(v:List Nat)(x:Nat):Nat->Nat->Nat->List Nat->List Nat
 | 0,_,_,out=>out
 | f+1,i,c,out=>if i<v.length∨0<c then OE v x f (i+1) ((c+v.getD i 0*x)/65536) (out++ [(c+v.getD i 0*x) % 65536])else out
def Gh(v:List Nat)(x:Nat):List Nat:=OE v x (v.length+4) 0 0 []
def TW(v w:List Nat):Nat->Bool
 | 0=>false
 | n+1=>if v.getD n 0=w.getD n 0 then TW v w n else decide (w.getD n 0<v.getD n 0)
def OH(x k:Nat):List Nat:=times (λ_ v=>Gh v x) k [1]
def digitsOf(p k:Nat):List Nat:=List.replicate (2*k) 0++ [p]
def Jt(l:List Nat)(n:Nat):List Nat:=l++List.replicate (n-l.length) 0
def MM(x k p:Nat):Bool:=
 let v:=Jt (OH x k) (digitsOf p k).length
 let w:=Jt (digitsOf p k) v.length
 TW v w v.length
def bis(p k:Nat):Nat->Nat->Nat->Nat
 | 0,low,_=>low
 | f+1,low,high=>if low+1<high then(if MM ((low+high)/2) k p then bis p k f low ((low+high)/2)else bis p k f ((low+high)/2) high)else low
def Gq(p k:Nat):Nat:=bis p k 1099511627776 0 1099511627776 % 4294967296
def ve:Nat->List Nat
 | 0=> []
 | k+1=>if (ve k).all (λp=>(2+k) % p !=0)then ve k++ [2+k]else ve k
def vT:List Nat:= [2,3,5,7,11,13,17,19,23,29,31,37,41,43,47,53,59,61,67,71,73,79,83,89,97,101,103,107,109,113,127,131,137,139,149,151,157,163,167,173,179,181,191,193,197,199,211,223,227,229,233,239,241,251,257,263,269,271,277,281,283,293,307,311]
def UR:ve 310=vT:=by decide+kernel
def zfc:(ve 309).length=63:=by decide+kernel
def zcC(k:Nat):(ve k).length<=(ve (k+1)).length:=by
 rw[ve];split
 ·simp
 exact Nat.le_refl _
def XT(j k:Nat)(h:j<=k):(ve j).length<=(ve k).length:=by
 induction k with
 | zero=>
   obtain rfl:j=0:=by omega
   exact Nat.le_refl _
 | succ k ih=>
  by_cases hj:j=k+1
  ·subst hj;exact Nat.le_refl _
  exact Nat.le_trans (ih (by omega)) (zcC k)
def zmo(k:Nat)(h:(ve k).length<64):k<310:=by apply Decidable.byContradiction;intro hk;have:=XT 310 k (by omega);rw[UR]at this;have e:vT.length=64:=rfl;omega
def zjD(k:Nat)(h:64<=(ve k).length)(hk:k<=310):ve k=vT:=by
 by_cases h9:k<=309
 ·have:=XT k 309 h9;rw[zfc]at this;omega
 obtain rfl:k=310:=by omega
 exact UR
def zuQ:vT.map (λp=>Gq p 3)=xK:=by decide+kernel
def zuR:(vT.take 8).map (λp=>Gq p 2)=vO:=by decide+kernel
