set_option linter.unusedSimpArgs false
set_option linter.unusedVariables false
namespace Go.Proofs.YtopbkdebihcmcaaGreatDoor
set_option maxRecDepth 100000
set_option maxHeartbeats 16000000
def bs(s:ByteArray):List Nat:=s.data.toList.map UInt8.toNat
def txt(l:List Nat):ByteArray:=⟨(l.map UInt8.ofNat).toArray⟩
def Bytes(l:List Nat):Prop:=∀x∈l,x<256
theorem bs_len(s:ByteArray):(bs s).length=s.size:=by rw[bs,List.length_map,Array.length_toList];rfl
theorem zq(s:ByteArray):Bytes (bs s):=by intro x hx;simp only[bs,List.mem_map]at hx;obtain⟨u,_,rfl⟩:=hx;exact u.toNat_lt
theorem zaZ(s:ByteArray):txt (bs s)=s:=by
 have:(bs s).map UInt8.ofNat=s.data.toList:=by
  simp only[bs,List.map_map]
  conv=>rhs;rw[<-List.map_id s.data.toList]
  apply List.map_congr_left;intro a _;simp
 simp[txt,this]
theorem qw{l:List Nat}(h:Bytes l):bs (txt l)=l:=by
 simp only[bs,txt,List.map_map]
 conv=>rhs;rw[<-List.map_id l]
 apply List.map_congr_left;intro a ha;have:=h a ha;simp[Nat.mod_eq_of_lt this]
theorem xy{s t:ByteArray}(h:bs s=bs t):s=t:=by rw[<-zaZ s,<-zaZ t,h]
theorem oU(l:List Nat):(txt l).size=l.length:=by rw[<-bs_len,bs,List.length_map,txt];simp
theorem bs_getD(s:ByteArray)(i:Nat)(h:i<s.size):(bs s).getD i 0=s[i].toNat:=by have h':i<s.data.size:=h;have e:s[i]=s.data[i]:=rfl;rw[e,List.getD_eq_getElem?_getD,bs,List.getElem?_map,Array.getElem?_toList,Array.getElem?_eq_getElem h'];rfl
theorem IP(s:ByteArray)(i:Nat):(bs s).getD i 0<256:=by
 by_cases h:i<s.size
 ·rw[bs_getD s i h];exact s[i].toNat_lt
 ·rw[List.getD_eq_getElem?_getD,List.getElem?_eq_none (by rw[bs_len];omega)];simp
theorem pY(s:ByteArray)(a b:Nat):bs (s.extract a b)=((bs s).drop a).take (b-a):=by
 have:(s.extract a b).data.toList=(s.data.toList.drop a).take (b-a):=by rw[ByteArray.data_extract,Array.toList_extract]
 rw[bs,this,List.map_take,List.map_drop];rfl
theorem tN(s t:ByteArray):bs (s++t)=bs s++bs t:=by simp[bs]
theorem JC{l:List Nat}(h:Bytes l)(i:Nat):l.getD i 0<256:=by
 rw[List.getD_eq_getElem?_getD];cases hx:l[i]? with
 | none=>simp
 | some x=>exact h x (List.mem_of_getElem? hx)
theorem zX{l:List Nat}(h:Bytes l)(n:Nat):Bytes (l.take n):=λx hx=>h x (List.mem_of_mem_take hx)
theorem TD{l:List Nat}(h:Bytes l)(n:Nat):Bytes (l.drop n):=λx hx=>h x (List.mem_of_mem_drop hx)
theorem bytes_append{a b:List Nat}(h:Bytes a)(k:Bytes b):Bytes (a++b):=λx hx=>(List.mem_append.1 hx).elim (h x) (k x)
def rotl(x n:Nat):Nat:=(x*2^n % 4294967296)|||(x/2^(32-n))
def yj(l:List Nat)(i j:Nat):List Nat:=l.set i ((l.getD i 0+l.getD j 0) % 4294967296)
def Ak(l:List Nat)(i j n:Nat):List Nat:=l.set i (rotl (l.getD i 0^^^l.getD j 0) n)
def qr(l:List Nat)(a b c d:Nat):List Nat:=
 let l:=Ak (yj l a b) d a 16
 let l:=Ak (yj l c d) b c 12
 let l:=Ak (yj l a b) d a 8
 Ak (yj l c d) b c 7
def times{α:Type}(f:Nat->α->α):Nat->α->α
 | 0,x=>x
 | n+1,x=>f n (times f n x)
def col(i:Nat)(l:List Nat):List Nat:=qr l i (4+i) (8+i) (12+i)
def dia(i:Nat)(l:List Nat):List Nat:=qr l i (4+(i+1) % 4) (8+(i+2) % 4) (12+(i+3) % 4)
def dbl(_:Nat)(l:List Nat):List Nat:=times dia 4 (times col 4 l)
def Qz(l:List Nat)(i:Nat):Nat:=l.getD i 0+256*l.getD (i+1) 0+65536*l.getD (i+2) 0+16777216*l.getD (i+3) 0
def za2:List Nat:= [1634760805,857760878,2036477234,1797285236,0,0,0,0,0,0,0,0,0,0,0,0]
def keyed(key:List Nat)(k:Nat):List Nat:=times (λi l=>l.set (4+i) (Qz key (4*i))) k za2
def Cc(l oh:List Nat)(k:Nat):List Nat:=times (λi l=>l.set (13+i) (Qz oh (4*i))) k l
def start(key:List Nat)(n:Nat)(oh:List Nat):List Nat:=Cc ((keyed key 8).set 12 (n % 4294967296)) oh 3
def QH(x:Nat):List Nat:= [x % 256,x/256 % 256,x/65536 % 256,x/16777216 % 256]
def Bl(t s:List Nat)(k:Nat):List Nat:=times (λi b=>b++QH ((t.getD i 0+s.getD i 0) % 4294967296)) k []
def block(key:List Nat)(n:Nat)(oh:List Nat):List Nat:=
 let s:=start key n oh
 Bl (times dbl 10 s) s 16
def JP(key oh:List Nat)(i:Nat):Nat:=(block key (1+i/64) oh).getD (i % 64) 0
def Qd(key oh:List Nat)(i:Nat)(l:List Nat):List Nat:=l.set i (l.getD i 0^^^JP key oh i)
def xq(key oh s:List Nat)(k:Nat):List Nat:=times (Qd key oh) k s
def xor(key oh s:List Nat):List Nat:=xq key oh s s.length
theorem uY{α:Type}(f:Nat->α->α)(n:Nat)(x:α):times f (n+1) x=f n (times f n x):=rfl
theorem BP(key oh s:List Nat)(k:Nat):(xq key oh s k).length=s.length:=by
 induction k with
 | zero=>rfl
 | succ k ih=>unfold xq at*;rw[uY,Qd,List.length_set,ih]
theorem RF(key oh s:List Nat)(k i:Nat):(xq key oh s k).getD i 0=if i<k∧i<s.length then s.getD i 0^^^JP key oh i else s.getD i 0:=by
 induction k with
 | zero=>simp[xq,times]
 | succ k ih=>
  have e:xq key oh s (k+1)=(xq key oh s k).set k ((xq key oh s k).getD k 0^^^JP key oh k):=rfl;rw[e,List.getD_eq_getElem?_getD,List.getElem?_set];by_cases hik:k=i
  ·subst hik;rw[if_pos rfl,BP];have ek:(xq key oh s k).getD k 0=s.getD k 0:=by rw[ih,if_neg (by omega)]
   by_cases hl:k<s.length
   ·rw[if_pos hl,if_pos ⟨by omega,hl⟩,ek];rfl
   ·rw[if_neg hl,if_neg (λh=>hl h.2),List.getD_eq_getElem?_getD,List.getElem?_eq_none (by omega)]
  ·rw[if_neg hik,<-List.getD_eq_getElem?_getD,ih];by_cases hl:i<s.length
   ·by_cases hi:i<k
    ·rw[if_pos ⟨hi,hl⟩,if_pos ⟨by omega,hl⟩]
    ·rw[if_neg (λh=>hi h.1),if_neg (λh=>by omega)]
   ·rw[if_neg (λh=>hl h.2),if_neg (λh=>hl h.2)]
theorem BG(key oh s:List Nat):(xor key oh s).length=s.length:=BP _ _ _ _
theorem YK(key oh s:List Nat)(i:Nat)(h:i<s.length):(xor key oh s).getD i 0=s.getD i 0^^^JP key oh i:=by unfold xor;rw[RF,if_pos ⟨h,h⟩]
def zD(x n:Nat):Nat:=(x/2^n)|||(x*2^(32-n) % 4294967296)
def zii(x:Nat):Nat:=zD x 2^^^zD x 13^^^zD x 22
def zih(x:Nat):Nat:=zD x 6^^^zD x 11^^^zD x 25
def za4(x:Nat):Nat:=zD x 7^^^zD x 18^^^(x/2^3)
def za3(x:Nat):Nat:=zD x 17^^^zD x 19^^^(x/2^10)
def chs(e f g:Nat):Nat:=(e&&&f)^^^((4294967295-e)&&&g)
def maj(a b c:Nat):Nat:=(a&&&b)^^^(a&&&c)^^^(b&&&c)
theorem zjk{a b:Nat}(h:∀i,a.testBit i=b.testBit i):a=b:=Nat.eq_of_testBit_eq h
theorem zeV(e i:Nat)(he:e<4294967296):(4294967295-e).testBit i=(decide (i<32)&& !e.testBit i):=by
 have:=Nat.testBit_two_pow_sub_succ (n:=32) (x:=e) he i;rw[<-this]
 congr 1
 omega
theorem zhf(e i:Nat)(he:e<4294967296)(hi:¬i<32):e.testBit i=false:=
 Nat.testBit_lt_two_pow (Nat.lt_of_lt_of_le he (show 2^32<=2^i from Nat.pow_le_pow_right (by omega) (by omega)))
theorem Ii(x n:Nat)(hx:x<4294967296):zD x n<4294967296:=
 Nat.or_lt_two_pow (n:=32) (Nat.lt_of_le_of_lt (Nat.div_le_self _ _) hx) (Nat.mod_lt _ (by omega))
def be32(l:List Nat)(i:Nat):Nat:=16777216*l.getD i 0+65536*l.getD (i+1) 0+256*l.getD (i+2) 0+l.getD (i+3) 0
def Gg(s:List Nat)(k:Nat):List Nat:=times (λi w=>w.set i (be32 s (4*i))) k (List.replicate 64 0)
def NG(j:Nat)(w:List Nat):List Nat:=
 w.set (16+j) ((w.getD j 0+za4 (w.getD (1+j) 0)+w.getD (9+j) 0+za3 (w.getD (14+j) 0)) % 4294967296)
def y7(s:List Nat)(k:Nat):List Nat:=times NG k (Gg s 16)
def sched(s:List Nat):List Nat:=y7 s 48
def EG:List Nat:= [
 1116352408,1899447441,3049323471,3921009573,961987163,1508970993,2453635748,2870763221,3624381080,310598401,607225278,1426881987,1925078388,2162078206,2614888103,3248222580,
 3835390401,4022224774,264347078,604807628,770255983,1249150122,1555081692,1996064986,2554220882,2821834349,2952996808,3210313671,3336571891,3584528711,113926993,338241895,
 666307205,773529912,1294757372,1396182291,1695183700,1986661051,2177026350,2456956037,2730485921,2820302411,3259730800,3345764771,3516065817,3600352804,4094571909,275423344,
 430227734,506948616,659060556,883997877,958139571,1322822218,1537002063,1747873779,1955562222,2024104815,2227730452,2361852424,2428436474,2756734187,3204031479,3329325298]
def zS:List Nat:= [1779033703,3144134277,1013904242,2773480762,1359893119,2600822924,528734635,1541459225]
def zfD(w:List Nat)(i:Nat)(v:List Nat):List Nat:=
 let one:=(v.getD 7 0+zih (v.getD 4 0)+chs (v.getD 4 0) (v.getD 5 0) (v.getD 6 0)+EG.getD i 0+w.getD i 0) % 4294967296
 let two:=(zii (v.getD 0 0)+maj (v.getD 0 0) (v.getD 1 0) (v.getD 2 0)) % 4294967296
 [(one+two) % 4294967296,v.getD 0 0,v.getD 1 0,v.getD 2 0,(v.getD 3 0+one) % 4294967296,v.getD 4 0,v.getD 5 0,v.getD 6 0]
def Bc(w h:List Nat)(k:Nat):List Nat:=times (zfD w) k h
def FY(v h:List Nat)(k:Nat):List Nat:=times (λi h=>h.set i ((h.getD i 0+v.getD i 0) % 4294967296)) k h
def compress(h s:List Nat):List Nat:=FY (Bc (sched s) h 64) h 8
def Un(n:Nat):Nat:=(119-n % 64) % 64
def qU(n:Nat):Nat->List Nat
 | 0=> []
 | k+1=>qU n k++ [n/2^(8*(7-k)) % 256]
def qB(n:Nat):List Nat:=qU n 8
def padded(s:List Nat):List Nat:=s++ [128]++List.replicate (Un s.length) 0++qB (8*s.length)
def zt(p:List Nat)(k:Nat):List Nat:=times (λi h=>compress h ((p.drop (64*i)).take 64)) k zS
def WY(x:Nat):List Nat:= [x/16777216 % 256,x/65536 % 256,x/256 % 256,x % 256]
def sF(h:List Nat)(k:Nat):List Nat:=times (λi b=>b++WY (h.getD i 0)) k []
def sha(s:List Nat):List Nat:=sF (zt (padded s) ((padded s).length/64)) 8
def pV(kind:Nat)(parts:List (List Nat)):List Nat:=parts.foldl (λs p=>s++qB p.length++p) [kind]
def mark(kind:Nat)(parts:List (List Nat)):List Nat:=(sha (pV kind parts)).take 16
theorem Il{f:Nat->List Nat->List Nat}(hf:∀i l,(f i l).length=l.length)(k:Nat)(l:List Nat):(times f k l).length=l.length:=by
 induction k with
 | zero=>rfl
 | succ k ih=>rw[uY,hf,ih]
theorem Sm(s:List Nat)(k:Nat):(Gg s k).length=64:=by rw[Gg,Il (λi l=>by rw[List.length_set]),List.length_replicate]
theorem Sl(s:List Nat)(k:Nat):(y7 s k).length=64:=by rw[y7,Il (λi l=>by rw[NG,List.length_set]),Sm]
theorem RY(w h:List Nat)(hh:h.length=8)(k:Nat):(Bc w h k).length=8:=by
 cases k with
 | zero=>exact hh
 | succ k=>rw[Bc,uY];rfl
theorem Ws(v h:List Nat)(k:Nat):(FY v h k).length=h.length:=Il (λi l=>by rw[List.length_set]) k h
theorem XY(h s:List Nat):(compress h s).length=h.length:=Ws _ _ _
theorem Md(p:List Nat)(k:Nat):(zt p k).length=8:=by rw[zt,Il (λi l=>XY _ _)];rfl
theorem ql(n k:Nat):(qU n k).length=k:=by
 induction k with
 | zero=>rfl
 | succ k ih=>rw[qU,List.length_append,ih];rfl
theorem SK(s:List Nat):(padded s).length=s.length+9+Un s.length:=by simp only[padded,List.length_append,List.length_replicate,qB,ql,List.length_cons,List.length_nil];omega
theorem zbS(s:List Nat):(padded s).length % 64=0:=by rw[SK,Un];omega
theorem Fb(h:List Nat)(k:Nat):(sF h k).length=4*k:=by
 induction k with
 | zero=>rfl
 | succ k ih=>rw[sF,uY,List.length_append,<-sF,ih];simp[WY];omega
theorem yB(s:List Nat):(sha s).length=32:=Fb _ _
def W32(l:List Nat):Prop:=∀i,l.getD i 0<4294967296
theorem W32.set{l:List Nat}(h:W32 l)(i v:Nat)(hv:v<4294967296):W32 (l.set i v):=by
 intro k;have:=h k;simp only[List.getD_eq_getElem?_getD,List.getElem?_set]at*;split
 ·split<;>simp<;>omega
 ·exact this
theorem W32.times{f:Nat->List Nat->List Nat}(hf:∀i l,W32 l->W32 (f i l))(k:Nat){l:List Nat}(h:W32 l):W32 (times f k l):=by
 induction k with
 | zero=>exact h
 | succ k ih=>exact hf _ _ ih
theorem W32.step(w:List Nat)(i:Nat){v:List Nat}(h:W32 v):W32 (zfD w i v):=by
 intro k;unfold zfD
 match k with
 | 0=>exact Nat.mod_lt _ (by omega)
 | 1=>exact h 0
 | 2=>exact h 1
 | 3=>exact h 2
 | 4=>exact Nat.mod_lt _ (by omega)
 | 5=>exact h 4
 | 6=>exact h 5
 | 7=>exact h 6
 | k+8=>simp
theorem W32.steps(w:List Nat){h:List Nat}(hh:W32 h)(k:Nat):W32 (Bc w h k):=W32.times (λi _ h=>h.step w i) k hh
theorem W32.FY(v:List Nat){h:List Nat}(hh:W32 h)(k:Nat):W32 (FY v h k):=W32.times (λ_ _ h=>h.set _ _ (Nat.mod_lt _ (by omega))) k hh
theorem W32.compress(s:List Nat){h:List Nat}(hh:W32 h):W32 (compress h s):=W32.FY _ hh _
theorem W32.zS:W32 zS:=by
 intro i;by_cases hi:i<8
 ·rcases(show i=0∨i=1∨i=2∨i=3∨i=4∨i=5∨i=6∨i=7 by omega)with rfl|rfl|rfl|rfl|rfl|rfl|rfl|rfl<;>decide
 ·rw[List.getD_eq_getElem?_getD,List.getElem?_eq_none (by show 8<=i;omega)];decide
theorem W32.blocks(p:List Nat)(k:Nat):W32 (zt p k):=W32.times (λ_ _ h=>h.compress _) k W32.zS
theorem zjm(s:List Nat)(hs:∀i,s.getD i 0<256)(i:Nat):be32 s i<4294967296:=by have h0:=hs i;have h1:=hs (i+1);have h2:=hs (i+2);have h3:=hs (i+3);unfold be32;omega
theorem W32.zeros(n:Nat):W32 (List.replicate n 0):=by intro i;rw[List.getD_eq_getElem?_getD,List.getElem?_replicate];split<;>simp
theorem W32.Gg(s:List Nat)(hs:∀i,s.getD i 0<256)(k:Nat):W32 (Gg s k):=W32.times (λ_ _ h=>h.set _ _ (zjm s hs _)) k (W32.zeros 64)
theorem W32.y7(s:List Nat)(hs:∀i,s.getD i 0<256)(k:Nat):W32 (y7 s k):=W32.times (λ_ _ h=>h.set _ _ (Nat.mod_lt _ (by omega))) k (W32.Gg s hs 16)
end Go.Proofs.YtopbkdebihcmcaaGreatDoor
