set_option linter.unusedSimpArgs false
set_option linter.unusedVariables false
namespace Go.Cof
def bs(s:ByteArray):List Nat:=s.data.toList.map UInt8.toNat
def txt(l:List Nat):ByteArray:=⟨(l.map UInt8.ofNat).toArray⟩
def Bytes(l:List Nat):Prop:=∀x∈l,x<256
theorem bs_len(s:ByteArray):(bs s).length=s.size:=by
 rw[bs,List.length_map,Array.length_toList];rfl
theorem bs_bytes(s:ByteArray):Bytes (bs s):=by
 intro x hx
 simp only[bs,List.mem_map]at hx
 obtain⟨u,_,rfl⟩:=hx
 exact u.toNat_lt
theorem txt_bs(s:ByteArray):txt (bs s)=s:=by
 have:(bs s).map UInt8.ofNat=s.data.toList:=by
  simp only[bs,List.map_map]
  conv=>rhs;rw[<-List.map_id s.data.toList]
  apply List.map_congr_left
  intro a _
  simp
 simp[txt,this]
theorem bs_txt{l:List Nat}(h:Bytes l):bs (txt l)=l:=by
 simp only[bs,txt,List.map_map]
 conv=>rhs;rw[<-List.map_id l]
 apply List.map_congr_left
 intro a ha
 have:=h a ha
 simp[Nat.mod_eq_of_lt this]
theorem bs_inj{s t:ByteArray}(h:bs s=bs t):s=t:=by rw[<-txt_bs s,<-txt_bs t,h]
theorem txt_size(l:List Nat):(txt l).size=l.length:=by
 rw[<-bs_len,bs,List.length_map,txt];simp
theorem bs_getD(s:ByteArray)(i:Nat)(h:i<s.size):(bs s).getD i 0=s[i].toNat:=by
 have h':i<s.data.size:=h
 have e:s[i]=s.data[i]:=rfl
 rw[e,List.getD_eq_getElem?_getD,bs,List.getElem?_map,Array.getElem?_toList,Array.getElem?_eq_getElem h']
 rfl
theorem bs_lt(s:ByteArray)(i:Nat):(bs s).getD i 0<256:=by
 by_cases h:i<s.size
 ·rw[bs_getD s i h];exact s[i].toNat_lt
 ·rw[List.getD_eq_getElem?_getD,List.getElem?_eq_none (by rw[bs_len];omega)];simp
theorem bs_extract(s:ByteArray)(a b:Nat):bs (s.extract a b)=((bs s).drop a).take (b-a):=by
 have:(s.extract a b).data.toList=(s.data.toList.drop a).take (b-a):=by
  rw[ByteArray.data_extract,Array.toList_extract]
 rw[bs,this,List.map_take,List.map_drop];rfl
theorem bs_append(s t:ByteArray):bs (s++t)=bs s++bs t:=by simp[bs]
theorem bytes_getD{l:List Nat}(h:Bytes l)(i:Nat):l.getD i 0<256:=by
 rw[List.getD_eq_getElem?_getD]
 cases hx:l[i]? with
 | none=>simp
 | some x=>exact h x (List.mem_of_getElem? hx)
theorem bytes_take{l:List Nat}(h:Bytes l)(n:Nat):Bytes (l.take n):=λx hx=>h x (List.mem_of_mem_take hx)
theorem bytes_drop{l:List Nat}(h:Bytes l)(n:Nat):Bytes (l.drop n):=λx hx=>h x (List.mem_of_mem_drop hx)
theorem bytes_append{a b:List Nat}(h:Bytes a)(k:Bytes b):Bytes (a++b):=λx hx=>(List.mem_append.1 hx).elim (h x) (k x)
def rotl(x n:Nat):Nat:=(x*2^n % 4294967296)|||(x/2^(32-n))
def addAt(l:List Nat)(i j:Nat):List Nat:=l.set i ((l.getD i 0+l.getD j 0) % 4294967296)
def rotAt(l:List Nat)(i j n:Nat):List Nat:=l.set i (rotl (l.getD i 0^^^l.getD j 0) n)
def qr(l:List Nat)(a b c d:Nat):List Nat:=
 let l:=rotAt (addAt l a b) d a 16
 let l:=rotAt (addAt l c d) b c 12
 let l:=rotAt (addAt l a b) d a 8
 rotAt (addAt l c d) b c 7
def times{α:Type}(f:Nat->α->α):Nat->α->α
 | 0,x=>x
 | n+1,x=>f n (times f n x)
def col(i:Nat)(l:List Nat):List Nat:=qr l i (4+i) (8+i) (12+i)
def dia(i:Nat)(l:List Nat):List Nat:=qr l i (4+(i+1) % 4) (8+(i+2) % 4) (12+(i+3) % 4)
def dbl(_:Nat)(l:List Nat):List Nat:=times dia 4 (times col 4 l)
def le32(l:List Nat)(i:Nat):Nat:=l.getD i 0+256*l.getD (i+1) 0+65536*l.getD (i+2) 0+16777216*l.getD (i+3) 0
def start0:List Nat:= [1634760805,857760878,2036477234,1797285236,0,0,0,0,0,0,0,0,0,0,0,0]
def keyed(key:List Nat)(k:Nat):List Nat:=times (λi l=>l.set (4+i) (le32 key (4*i))) k start0
def nonced(l nonce:List Nat)(k:Nat):List Nat:=times (λi l=>l.set (13+i) (le32 nonce (4*i))) k l
def start(key:List Nat)(n:Nat)(nonce:List Nat):List Nat:=nonced ((keyed key 8).set 12 (n % 4294967296)) nonce 3
def word4(x:Nat):List Nat:= [x % 256,x/256 % 256,x/65536 % 256,x/16777216 % 256]
def outTo(t s:List Nat)(k:Nat):List Nat:=times (λi b=>b++word4 ((t.getD i 0+s.getD i 0) % 4294967296)) k []
def block(key:List Nat)(n:Nat)(nonce:List Nat):List Nat:=
 let s:=start key n nonce
 outTo (times dbl 10 s) s 16
def padAt(key nonce:List Nat)(i:Nat):Nat:=(block key (1+i/64) nonce).getD (i % 64) 0
def xorStep(key nonce:List Nat)(i:Nat)(l:List Nat):List Nat:=l.set i (l.getD i 0^^^padAt key nonce i)
def xorTo(key nonce s:List Nat)(k:Nat):List Nat:=times (xorStep key nonce) k s
def xor(key nonce s:List Nat):List Nat:=xorTo key nonce s s.length
theorem times_succ{α:Type}(f:Nat->α->α)(n:Nat)(x:α):times f (n+1) x=f n (times f n x):=rfl
theorem xorTo_len(key nonce s:List Nat)(k:Nat):(xorTo key nonce s k).length=s.length:=by
 induction k with
 | zero=>rfl
 | succ k ih=>unfold xorTo at*;rw[times_succ,xorStep,List.length_set,ih]
theorem xorTo_getD(key nonce s:List Nat)(k i:Nat):(xorTo key nonce s k).getD i 0=if i<k∧i<s.length then s.getD i 0^^^padAt key nonce i else s.getD i 0:=by
 induction k with
 | zero=>simp[xorTo,times]
 | succ k ih=>
  have e:xorTo key nonce s (k+1)=(xorTo key nonce s k).set k ((xorTo key nonce s k).getD k 0^^^padAt key nonce k):=rfl
  rw[e,List.getD_eq_getElem?_getD,List.getElem?_set]
  by_cases hik:k=i
  ·subst hik
   rw[if_pos rfl,xorTo_len]
   have ek:(xorTo key nonce s k).getD k 0=s.getD k 0:=by rw[ih,if_neg (by omega)]
   by_cases hl:k<s.length
   ·rw[if_pos hl,if_pos ⟨by omega,hl⟩,ek];rfl
   ·rw[if_neg hl,if_neg (λh=>hl h.2),List.getD_eq_getElem?_getD,List.getElem?_eq_none (by omega)]
  ·rw[if_neg hik,<-List.getD_eq_getElem?_getD,ih]
   by_cases hl:i<s.length
   ·by_cases hi:i<k
    ·rw[if_pos ⟨hi,hl⟩,if_pos ⟨by omega,hl⟩]
    ·rw[if_neg (λh=>hi h.1),if_neg (λh=>by omega)]
   ·rw[if_neg (λh=>hl h.2),if_neg (λh=>hl h.2)]
theorem xor_len(key nonce s:List Nat):(xor key nonce s).length=s.length:=xorTo_len _ _ _ _
theorem xor_getD(key nonce s:List Nat)(i:Nat)(h:i<s.length):(xor key nonce s).getD i 0=s.getD i 0^^^padAt key nonce i:=by
 unfold xor
 rw[xorTo_getD,if_pos ⟨h,h⟩]
def rotr(x n:Nat):Nat:=(x/2^n)|||(x*2^(32-n) % 4294967296)
def bigA(x:Nat):Nat:=rotr x 2^^^rotr x 13^^^rotr x 22
def bigE(x:Nat):Nat:=rotr x 6^^^rotr x 11^^^rotr x 25
def small0(x:Nat):Nat:=rotr x 7^^^rotr x 18^^^(x/2^3)
def small1(x:Nat):Nat:=rotr x 17^^^rotr x 19^^^(x/2^10)
def chs(e f g:Nat):Nat:=(e&&&f)^^^((4294967295-e)&&&g)
def maj(a b c:Nat):Nat:=(a&&&b)^^^(a&&&c)^^^(b&&&c)
theorem bits_eq{a b:Nat}(h:∀i,a.testBit i=b.testBit i):a=b:=Nat.eq_of_testBit_eq h
theorem compl_bit(e i:Nat)(he:e<4294967296):(4294967295-e).testBit i=(decide (i<32)&& !e.testBit i):=by
 have:=Nat.testBit_two_pow_sub_succ (n:=32) (x:=e) he i
 rw[<-this]
 congr 1
 omega
theorem high_bit(e i:Nat)(he:e<4294967296)(hi:¬i<32):e.testBit i=false:=
 Nat.testBit_lt_two_pow (Nat.lt_of_lt_of_le he (show 2^32<=2^i from Nat.pow_le_pow_right (by omega) (by omega)))
theorem rotr_lt(x n:Nat)(hx:x<4294967296):rotr x n<4294967296:=
 Nat.or_lt_two_pow (n:=32) (Nat.lt_of_le_of_lt (Nat.div_le_self _ _) hx) (Nat.mod_lt _ (by omega))
def be32(l:List Nat)(i:Nat):Nat:=16777216*l.getD i 0+65536*l.getD (i+1) 0+256*l.getD (i+2) 0+l.getD (i+3) 0
def sched0(s:List Nat)(k:Nat):List Nat:=times (λi w=>w.set i (be32 s (4*i))) k (List.replicate 64 0)
def schedStep(j:Nat)(w:List Nat):List Nat:=
 w.set (16+j) ((w.getD j 0+small0 (w.getD (1+j) 0)+w.getD (9+j) 0+small1 (w.getD (14+j) 0)) % 4294967296)
def sched1(s:List Nat)(k:Nat):List Nat:=times schedStep k (sched0 s 16)
def sched(s:List Nat):List Nat:=sched1 s 48
def roundsK:List Nat:= [
 1116352408,1899447441,3049323471,3921009573,961987163,1508970993,2453635748,2870763221,3624381080,310598401,607225278,1426881987,1925078388,2162078206,2614888103,3248222580,
 3835390401,4022224774,264347078,604807628,770255983,1249150122,1555081692,1996064986,2554220882,2821834349,2952996808,3210313671,3336571891,3584528711,113926993,338241895,
 666307205,773529912,1294757372,1396182291,1695183700,1986661051,2177026350,2456956037,2730485921,2820302411,3259730800,3345764771,3516065817,3600352804,4094571909,275423344,
 430227734,506948616,659060556,883997877,958139571,1322822218,1537002063,1747873779,1955562222,2024104815,2227730452,2361852424,2428436474,2756734187,3204031479,3329325298]
def startH:List Nat:= [1779033703,3144134277,1013904242,2773480762,1359893119,2600822924,528734635,1541459225]
def stepV(w:List Nat)(i:Nat)(v:List Nat):List Nat:=
 let one:=(v.getD 7 0+bigE (v.getD 4 0)+chs (v.getD 4 0) (v.getD 5 0) (v.getD 6 0)+roundsK.getD i 0+w.getD i 0) % 4294967296
 let two:=(bigA (v.getD 0 0)+maj (v.getD 0 0) (v.getD 1 0) (v.getD 2 0)) % 4294967296
 [(one+two) % 4294967296,v.getD 0 0,v.getD 1 0,v.getD 2 0,(v.getD 3 0+one) % 4294967296,v.getD 4 0,v.getD 5 0,v.getD 6 0]
def stepsV(w h:List Nat)(k:Nat):List Nat:=times (stepV w) k h
def addTo(v h:List Nat)(k:Nat):List Nat:=times (λi h=>h.set i ((h.getD i 0+v.getD i 0) % 4294967296)) k h
def compress(h s:List Nat):List Nat:=addTo (stepsV (sched s) h 64) h 8
def padZ(n:Nat):Nat:=(119-n % 64) % 64
def be64To(n:Nat):Nat->List Nat
 | 0=> []
 | k+1=>be64To n k++ [n/2^(8*(7-k)) % 256]
def be64(n:Nat):List Nat:=be64To n 8
def padded(s:List Nat):List Nat:=s++ [128]++List.replicate (padZ s.length) 0++be64 (8*s.length)
def blocksTo(p:List Nat)(k:Nat):List Nat:=times (λi h=>compress h ((p.drop (64*i)).take 64)) k startH
def word4be(x:Nat):List Nat:= [x/16777216 % 256,x/65536 % 256,x/256 % 256,x % 256]
def outWords(h:List Nat)(k:Nat):List Nat:=times (λi b=>b++word4be (h.getD i 0)) k []
def sha(s:List Nat):List Nat:=outWords (blocksTo (padded s) ((padded s).length/64)) 8
def markText(kind:Nat)(parts:List (List Nat)):List Nat:=parts.foldl (λs p=>s++be64 p.length++p) [kind]
def mark(kind:Nat)(parts:List (List Nat)):List Nat:=(sha (markText kind parts)).take 16
theorem times_len{f:Nat->List Nat->List Nat}(hf:∀i l,(f i l).length=l.length)(k:Nat)(l:List Nat):(times f k l).length=l.length:=by
 induction k with
 | zero=>rfl
 | succ k ih=>rw[times_succ,hf,ih]
theorem sched0_len(s:List Nat)(k:Nat):(sched0 s k).length=64:=by
 rw[sched0,times_len (λi l=>by rw[List.length_set]),List.length_replicate]
theorem sched1_len(s:List Nat)(k:Nat):(sched1 s k).length=64:=by
 rw[sched1,times_len (λi l=>by rw[schedStep,List.length_set]),sched0_len]
theorem stepsV_len(w h:List Nat)(hh:h.length=8)(k:Nat):(stepsV w h k).length=8:=by
 cases k with
 | zero=>exact hh
 | succ k=>rw[stepsV,times_succ];rfl
theorem addTo_len(v h:List Nat)(k:Nat):(addTo v h k).length=h.length:=times_len (λi l=>by rw[List.length_set]) k h
theorem compress_len(h s:List Nat):(compress h s).length=h.length:=addTo_len _ _ _
theorem blocksTo_len(p:List Nat)(k:Nat):(blocksTo p k).length=8:=by
 rw[blocksTo,times_len (λi l=>compress_len _ _)];rfl
theorem be64To_len(n k:Nat):(be64To n k).length=k:=by
 induction k with
 | zero=>rfl
 | succ k ih=>rw[be64To,List.length_append,ih];rfl
theorem padded_len(s:List Nat):(padded s).length=s.length+9+padZ s.length:=by
 simp only[padded,List.length_append,List.length_replicate,be64,be64To_len,List.length_cons,List.length_nil]
 omega
theorem padded_mod(s:List Nat):(padded s).length % 64=0:=by
 rw[padded_len,padZ];omega
theorem outWords_len(h:List Nat)(k:Nat):(outWords h k).length=4*k:=by
 induction k with
 | zero=>rfl
 | succ k ih=>rw[outWords,times_succ,List.length_append,<-outWords,ih];simp[word4be];omega
theorem sha_len(s:List Nat):(sha s).length=32:=outWords_len _ _
def W32(l:List Nat):Prop:=∀i,l.getD i 0<4294967296
theorem W32.set{l:List Nat}(h:W32 l)(i v:Nat)(hv:v<4294967296):W32 (l.set i v):=by
 intro k
 have:=h k
 simp only[List.getD_eq_getElem?_getD,List.getElem?_set]at*
 split
 ·split<;>simp<;>omega
 ·exact this
theorem W32.times{f:Nat->List Nat->List Nat}(hf:∀i l,W32 l->W32 (f i l))(k:Nat){l:List Nat}(h:W32 l):W32 (times f k l):=by
 induction k with
 | zero=>exact h
 | succ k ih=>exact hf _ _ ih
theorem W32.step(w:List Nat)(i:Nat){v:List Nat}(h:W32 v):W32 (stepV w i v):=by
 intro k
 unfold stepV
 match k with
 | 0=>exact Nat.mod_lt _ (by omega)
 | 1=>exact h 0
 | 2=>exact h 1
 | 3=>exact h 2
 | 4=>exact Nat.mod_lt _ (by omega)
 | 5=>exact h 4
 | 6=>exact h 5
 | 7=>exact h 6
 | k+8=>simp
theorem W32.steps(w:List Nat){h:List Nat}(hh:W32 h)(k:Nat):W32 (stepsV w h k):=W32.times (λi _ h=>h.step w i) k hh
theorem W32.addTo(v:List Nat){h:List Nat}(hh:W32 h)(k:Nat):W32 (addTo v h k):=W32.times (λ_ _ h=>h.set _ _ (Nat.mod_lt _ (by omega))) k hh
theorem W32.compress(s:List Nat){h:List Nat}(hh:W32 h):W32 (compress h s):=W32.addTo _ hh _
theorem W32.startH:W32 startH:=by
 intro i
 by_cases hi:i<8
 ·rcases(show i=0∨i=1∨i=2∨i=3∨i=4∨i=5∨i=6∨i=7 by omega)with rfl|rfl|rfl|rfl|rfl|rfl|rfl|rfl<;>decide
 ·rw[List.getD_eq_getElem?_getD,List.getElem?_eq_none (by show 8<=i;omega)];decide
theorem W32.blocks(p:List Nat)(k:Nat):W32 (blocksTo p k):=W32.times (λ_ _ h=>h.compress _) k W32.startH
theorem be32_lt(s:List Nat)(hs:∀i,s.getD i 0<256)(i:Nat):be32 s i<4294967296:=by
 have h0:=hs i
 have h1:=hs (i+1)
 have h2:=hs (i+2)
 have h3:=hs (i+3)
 unfold be32
 omega
theorem W32.zeros(n:Nat):W32 (List.replicate n 0):=by
 intro i
 rw[List.getD_eq_getElem?_getD,List.getElem?_replicate]
 split<;>simp
theorem W32.sched0(s:List Nat)(hs:∀i,s.getD i 0<256)(k:Nat):W32 (sched0 s k):=W32.times (λ_ _ h=>h.set _ _ (be32_lt s hs _)) k (W32.zeros 64)
theorem W32.sched1(s:List Nat)(hs:∀i,s.getD i 0<256)(k:Nat):W32 (sched1 s k):=W32.times (λ_ _ h=>h.set _ _ (Nat.mod_lt _ (by omega))) k (W32.sched0 s hs 16)
end Go.Cof
