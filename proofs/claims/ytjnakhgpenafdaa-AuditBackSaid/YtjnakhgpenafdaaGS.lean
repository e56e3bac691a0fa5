import Derived.Test.YtjnakhgpenafdaaGA
import Derived.BigQuiet
import Derived.Deep.MidRow
import Derived.StillTailTactics
import Derived.WalkSpells
import Derived.IntWalk
import Derived.Deep.RegionHeld3
import Derived.Laws.CopyOwn
/- SHA-256 over lists of bytes: as the program computes it and as the reference computes it; plain Lean, no program. -/
namespace Go.Proofs.Ytjnakhgpenafdaa.Sha

abbrev W := BitVec 32

/-- a rotation to the left, as both texts write it -/
def rotl (x : W) (n : Nat) : W := (x <<< n) ||| (x >>> (32 - n))
def be4 (a b c d : UInt8) : W :=
  ((BitVec.ofNat 32 a.toNat <<< 24 ||| BitVec.ofNat 32 b.toNat <<< 16) ||| BitVec.ofNat 32 c.toNat <<< 8) ||| BitVec.ofNat 32 d.toNat

def K256 : List W := [
  0x428a2f98#32, 0x71374491#32, 0xb5c0fbcf#32, 0xe9b5dba5#32, 0x3956c25b#32, 0x59f111f1#32, 0x923f82a4#32, 0xab1c5ed5#32,
  0xd807aa98#32, 0x12835b01#32, 0x243185be#32, 0x550c7dc3#32, 0x72be5d74#32, 0x80deb1fe#32, 0x9bdc06a7#32, 0xc19bf174#32,
  0xe49b69c1#32, 0xefbe4786#32, 0x0fc19dc6#32, 0x240ca1cc#32, 0x2de92c6f#32, 0x4a7484aa#32, 0x5cb0a9dc#32, 0x76f988da#32,
  0x983e5152#32, 0xa831c66d#32, 0xb00327c8#32, 0xbf597fc7#32, 0xc6e00bf3#32, 0xd5a79147#32, 0x06ca6351#32, 0x14292967#32,
  0x27b70a85#32, 0x2e1b2138#32, 0x4d2c6dfc#32, 0x53380d13#32, 0x650a7354#32, 0x766a0abb#32, 0x81c2c92e#32, 0x92722c85#32,
  0xa2bfe8a1#32, 0xa81a664b#32, 0xc24b8b70#32, 0xc76c51a3#32, 0xd192e819#32, 0xd6990624#32, 0xf40e3585#32, 0x106aa070#32,
  0x19a4c116#32, 0x1e376c08#32, 0x2748774c#32, 0x34b0bcb5#32, 0x391c0cb3#32, 0x4ed8aa4a#32, 0x5b9cca4f#32, 0x682e6ff3#32,
  0x748f82ee#32, 0x78a5636f#32, 0x84c87814#32, 0x8cc70208#32, 0x90befffa#32, 0xa4506ceb#32, 0xbef9a3f7#32, 0xc67178f2#32]

def sg0 (x : W) : W := (rotl x 25 ^^^ rotl x 14) ^^^ (x >>> 3)
def sg1 (x : W) : W := (rotl x 15 ^^^ rotl x 13) ^^^ (x >>> 10)
def bs1 (x : W) : W := (rotl x 26 ^^^ rotl x 21) ^^^ rotl x 7
def bs0 (x : W) : W := (rotl x 30 ^^^ rotl x 19) ^^^ rotl x 10

def ch1 (e f g : W) : W := g ^^^ (e &&& (f ^^^ g))
def ch2 (e f g : W) : W := (e &&& f) ^^^ (~~~ e &&& g)
def mj1 (a b c : W) : W := (a &&& b) ||| (c &&& (a ||| b))
def mj2 (a b c : W) : W := ((a &&& b) ^^^ (a &&& c)) ^^^ (b &&& c)
theorem ch_eq (e f g : W) : ch1 e f g = ch2 e f g := by
  unfold ch1 ch2
  ext i hi
  simp only [BitVec.getElem_xor, BitVec.getElem_and, BitVec.getElem_not]
  cases e[i] <;> cases f[i] <;> cases g[i] <;> rfl
theorem mj_eq (a b c : W) : mj1 a b c = mj2 a b c := by
  unfold mj1 mj2
  ext i hi
  simp only [BitVec.getElem_xor, BitVec.getElem_and, BitVec.getElem_or]
  cases a[i] <;> cases b[i] <;> cases c[i] <;> rfl

structure V8 where
  (a b c d e f g h : W)
def V8.list (v : V8) : List W := [v.a, v.b, v.c, v.d, v.e, v.f, v.g, v.h]
def V8.add (x y : V8) : V8 := ⟨x.a + y.a, x.b + y.b, x.c + y.c, x.d + y.d, x.e + y.e, x.f + y.f, x.g + y.g, x.h + y.h⟩

def rnd (ch mj : W → W → W → W) (v : V8) (k x : W) : V8 :=
  ⟨(v.h + bs1 v.e + ch v.e v.f v.g + k + x) + (bs0 v.a + mj v.a v.b v.c), v.a, v.b, v.c, v.d + (v.h + bs1 v.e + ch v.e v.f v.g + k + x), v.e, v.f, v.g⟩
theorem rnd_eq (v : V8) (k x : W) : rnd ch1 mj1 v k x = rnd ch2 mj2 v k x := by
  unfold rnd; rw [ch_eq, mj_eq]

def nextW (b : List UInt8) (l : List W) (i : Nat) : W :=
  if i < 16 then be4 (b.getD (4 * i) 0) (b.getD (4 * i + 1) 0) (b.getD (4 * i + 2) 0) (b.getD (4 * i + 3) 0)
  else l.getD (i - 16) 0 + sg0 (l.getD (i - 15) 0) + l.getD (i - 7) 0 + sg1 (l.getD (i - 2) 0)
def sched (b : List UInt8) : Nat → List W
  | 0 => []
  | i + 1 => sched b i ++ [nextW b (sched b i) i]
theorem sched_length (b : List UInt8) (i : Nat) : (sched b i).length = i := by
  induction i with
  | zero => rfl
  | succ i ih => simp [sched, ih]
def rounds (ch mj : W → W → W → W) (ws : List W) (v : V8) : Nat → V8
  | 0 => v
  | i + 1 => rnd ch mj (rounds ch mj ws v i) (K256.getD i 0) (ws.getD i 0)
theorem rounds_eq (ws : List W) (v : V8) (i : Nat) : rounds ch1 mj1 ws v i = rounds ch2 mj2 ws v i := by
  induction i with
  | zero => rfl
  | succ i ih => simp only [rounds, ih, rnd_eq]
def comp1 (h : V8) (b : List UInt8) : V8 := h.add (rounds ch1 mj1 (sched b 64) h 64)
def comp2 (h : V8) (b : List UInt8) : V8 := h.add (rounds ch2 mj2 (sched b 64) h 64)
theorem comp_eq (h : V8) (b : List UInt8) : comp1 h b = comp2 h b := by unfold comp1 comp2; rw [rounds_eq]

def H0 : V8 := ⟨0x6a09e667#32, 0xbb67ae85#32, 0x3c6ef372#32, 0xa54ff53a#32, 0x510e527f#32, 0x9b05688c#32, 0x1f83d9ab#32, 0x5be0cd19#32⟩

/-- a hash on its way, in the program: the chaining value, the block, how many bytes came -/
structure St where
  (h : V8) (blk : List UInt8) (n : Nat)
def put1 (s : St) (x : UInt8) : St :=
  if (s.n + 1) % 64 = 0 then ⟨comp1 s.h (s.blk.set (s.n % 64) x), s.blk.set (s.n % 64) x, s.n + 1⟩ else ⟨s.h, s.blk.set (s.n % 64) x, s.n + 1⟩
def puts (s : St) (l : List UInt8) : St := l.foldl put1 s
theorem puts_append (s : St) (l m : List UInt8) : puts s (l ++ m) = puts (puts s l) m := by simp [puts]
theorem puts_n (s : St) (l : List UInt8) : (puts s l).n = s.n + l.length := by
  induction l generalizing s with
  | nil => simp [puts]
  | cons x l ih =>
    have := ih (put1 s x)
    simp only [puts, List.foldl_cons] at this ⊢
    rw [this]
    simp only [put1]
    split <;> simp <;> omega
theorem puts_blk (s : St) (l : List UInt8) : (puts s l).blk.length = s.blk.length := by
  induction l generalizing s with
  | nil => simp [puts]
  | cons x l ih =>
    have := ih (put1 s x)
    simp only [puts, List.foldl_cons] at this ⊢
    rw [this]
    simp only [put1]
    split <;> simp
/-- a part that stays within the block, without filling it -/
theorem puts_within (l : List UInt8) : ∀ s : St, s.blk.length = 64 → s.n % 64 + l.length < 64 →
    puts s l = ⟨s.h, s.blk.take (s.n % 64) ++ l ++ s.blk.drop (s.n % 64 + l.length), s.n + l.length⟩ := by
  induction l with
  | nil => intro s hb _; simp [puts]
  | cons x l ih =>
    intro s hb hl
    have e : put1 s x = ⟨s.h, s.blk.set (s.n % 64) x, s.n + 1⟩ := by
      unfold put1
      rw [if_neg (by simp at hl; omega)]
    have hm : (s.n + 1) % 64 = s.n % 64 + 1 := by simp at hl; omega
    have h := ih (put1 s x) (by rw [e]; simpa using hb) (by rw [e]; simp only [hm]; simp at hl; omega)
    show puts (put1 s x) l = _
    rw [h, e]
    simp only [hm]
    have h1 : (s.blk.set (s.n % 64) x).take (s.n % 64 + 1) = s.blk.take (s.n % 64) ++ [x] := by
      rw [List.take_succ_eq_append_getElem (by rw [List.length_set]; omega), List.getElem_set_self, List.take_set_of_le (Nat.le_refl _)]
    have h2 : (s.blk.set (s.n % 64) x).drop (s.n % 64 + 1 + l.length) = s.blk.drop (s.n % 64 + (x :: l).length) := by
      rw [List.drop_set_of_lt (by omega)]
      congr 1
      simp; omega
    rw [h1, h2]
    congr 1
    · simp
    · simp; omega
/-- a part that fills the block -/
theorem puts_fill (l : List UInt8) (s : St) (hb : s.blk.length = 64) (hl : s.n % 64 + l.length = 64) (h0 : l ≠ []) :
    puts s l = ⟨comp1 s.h (s.blk.take (s.n % 64) ++ l), s.blk.take (s.n % 64) ++ l, s.n + l.length⟩ := by
  obtain ⟨i, x, rfl⟩ : ∃ i x, l = i ++ [x] := ⟨l.dropLast, l.getLast h0, (List.dropLast_concat_getLast h0).symm⟩
  simp only [List.length_append, List.length_cons, List.length_nil] at hl
  rw [puts_append, puts_within i s hb (by omega)]
  show put1 _ x = _
  unfold put1
  have hm : (s.n + i.length) % 64 = s.n % 64 + i.length := by omega
  have hk : (s.n + i.length + 1) % 64 = 0 := by omega
  simp only [hk, if_true, hm]
  have hs : (s.blk.take (s.n % 64) ++ i ++ s.blk.drop (s.n % 64 + i.length)).set (s.n % 64 + i.length) x = s.blk.take (s.n % 64) ++ (i ++ [x]) := by
    have hd : s.blk.drop (s.n % 64 + i.length) = [s.blk[s.n % 64 + i.length]'(by omega)] := by
      rw [List.drop_eq_getElem_cons (by omega), List.drop_eq_nil_of_le (by omega)]
    rw [hd, List.set_append_right _ _ (by simp; omega)]
    have : s.n % 64 + i.length - (s.blk.take (s.n % 64) ++ i).length = 0 := by simp; omega
    rw [this]
    simp
  rw [hs]
  simp [Nat.add_assoc]

def byte (n : Nat) : UInt8 := UInt8.ofNat n
def be8 (n : Nat) : List UInt8 := [byte (n >>> 56), byte (n >>> 48), byte (n >>> 40), byte (n >>> 32), byte (n >>> 24), byte (n >>> 16), byte (n >>> 8), byte n]
def zs (n : Nat) : Nat := (119 - n % 64) % 64
def padded (b : List UInt8) : List UInt8 := b ++ ([0x80] ++ List.replicate (zs b.length) 0 ++ be8 (b.length * 8))
theorem padded_length (b : List UInt8) : (padded b).length % 64 = 0 := by
  simp only [padded, zs, be8, List.length_append, List.length_replicate, List.length_cons, List.length_nil]
  omega
def wb (x : W) : List UInt8 := [byte (x >>> 24).toNat, byte (x >>> 16).toNat, byte (x >>> 8).toNat, byte x.toNat]
def zeros64 : List UInt8 := List.replicate 64 0
def sha1st (b : List UInt8) : St := puts ⟨H0, zeros64, 0⟩ (padded b)
/-- as the program computes it -/
def shaP (b : List UInt8) : List UInt8 := (sha1st b).h.list.flatMap wb
def chunks : Nat → V8 → List UInt8 → V8
  | 0, h, _ => h
  | k + 1, h, p => chunks k (comp2 h (p.take 64)) (p.drop 64)
/-- as the reference computes it -/
def sha (b : List UInt8) : List UInt8 := (chunks ((padded b).length / 64) H0 (padded b)).list.flatMap wb

theorem puts_chunks (k : Nat) : ∀ (s : St) (p : List UInt8), s.blk.length = 64 → s.n % 64 = 0 → p.length = 64 * k → (puts s p).h = chunks k s.h p := by
  induction k with
  | zero =>
    intro s p _ _ hp
    obtain rfl : p = [] := List.eq_nil_of_length_eq_zero (by omega)
    rfl
  | succ k ih =>
    intro s p hb hn hp
    have ht : (p.take 64).length = 64 := by simp; omega
    conv => lhs; rw [← List.take_append_drop 64 p]
    rw [puts_append, puts_fill (p.take 64) s hb (by rw [hn, ht]) (by intro h; rw [h] at ht; simp at ht)]
    rw [ih _ _ (by rw [hn]; simpa using ht) (by simp only [ht]; omega) (by simp; omega)]
    simp only [chunks, hn, List.take_zero, List.nil_append, comp_eq]
theorem sha_eq (b : List UInt8) : shaP b = sha b := by
  unfold shaP sha sha1st
  rw [puts_chunks ((padded b).length / 64) _ _ (by simp [zeros64]) rfl (by have := padded_length b; omega)]

theorem wb_length (x : W) : (wb x).length = 4 := rfl
theorem sha_length (b : List UInt8) : (sha b).length = 32 := by
  simp [sha, V8.list, wb]
end Go.Proofs.Ytjnakhgpenafdaa.Sha
/- 32-bit words: the walk's numbers as bit vectors; math/bits.RotateLeft32, digest.word. -/
namespace Go.Proofs.Ytjnakhgpenafdaa
open Go.RowKit
open Sha (W rotl be4)
set_option linter.unusedVariables false
set_option linter.unusedSimpArgs false

theorem u32_ofInt (X : W) : BitVec.ofInt 32 (X.toNat : Int) = X := by
  rw [BitVec.ofInt_natCast]; simp
theorem u32_wrap (n : Nat) : IntKind.u32.wrap (n : Int) = ((BitVec.ofNat 32 n).toNat : Int) := by
  rw [IntKind.wrap_u32, BitVec.toNat_ofNat]; omega
theorem u32_wrap_W (X : W) : IntKind.u32.wrap (X.toNat : Int) = (X.toNat : Int) := by
  rw [u32_wrap]; simp
theorem u32_or (X Y : W) : bits .or .u32 (X.toNat : Int) (Y.toNat : Int) = ((X ||| Y).toNat : Int) := by
  show IntKind.u32.wrap ((BitVec.ofInt 32 (X.toNat : Int) ||| BitVec.ofInt 32 (Y.toNat : Int)).toNat : Int) = _
  rw [u32_ofInt, u32_ofInt, u32_wrap_W]
theorem u32_and (X Y : W) : bits .and .u32 (X.toNat : Int) (Y.toNat : Int) = ((X &&& Y).toNat : Int) := by
  show IntKind.u32.wrap ((BitVec.ofInt 32 (X.toNat : Int) &&& BitVec.ofInt 32 (Y.toNat : Int)).toNat : Int) = _
  rw [u32_ofInt, u32_ofInt, u32_wrap_W]
theorem u32_xor (X Y : W) : bits .xor .u32 (X.toNat : Int) (Y.toNat : Int) = ((X ^^^ Y).toNat : Int) := by
  show IntKind.u32.wrap ((BitVec.ofInt 32 (X.toNat : Int) ^^^ BitVec.ofInt 32 (Y.toNat : Int)).toNat : Int) = _
  rw [u32_ofInt, u32_ofInt, u32_wrap_W]
theorem u32_add (X Y : W) : IntKind.u32.wrap ((X.toNat : Int) + (Y.toNat : Int)) = ((X + Y).toNat : Int) := by
  rw [IntKind.wrap_u32, BitVec.toNat_add]; omega
theorem u32_add' (X Y : W) : ((X.toNat : Int) + (Y.toNat : Int)) % 4294967296 = ((X + Y).toNat : Int) := by
  rw [BitVec.toNat_add]; omega
theorem u32_shl (X : W) (k : Nat) : IntKind.u32.wrap ((X.toNat : Int) * 2 ^ k) = ((X <<< k).toNat : Int) := by
  have e : ((X.toNat : Int) * 2 ^ k) = ((X.toNat * 2 ^ k : Nat) : Int) := by rw [Int.natCast_mul, Int.natCast_pow]; rfl
  rw [e, u32_wrap, BitVec.toNat_ofNat, BitVec.toNat_shiftLeft, Nat.shiftLeft_eq]
theorem u32_shr (X : W) (k : Nat) : (X.toNat : Int) / 2 ^ k = ((X >>> k).toNat : Int) := by
  rw [BitVec.toNat_ushiftRight, Nat.shiftRight_eq_div_pow, Int.natCast_ediv, Int.natCast_pow]
  rfl
theorem u32_lt (X : W) : (X.toNat : Int) < 4294967296 := by have := X.isLt; omega

theorem u32_shl' (X : W) (k : Nat) : ((X.toNat : Int) * 2 ^ k) % 4294967296 = ((X <<< k).toNat : Int) := by
  rw [← IntKind.wrap_u32]; exact u32_shl X k
theorem u32_shr' (X : W) (k : Nat) : (X.toNat : Int) / 2 ^ k = ((X >>> k).toNat : Int) := u32_shr X k

/-- the operations under names that the walk's simp does not open -/
def xorW (X Y : W) : W := X ^^^ Y
def andW (X Y : W) : W := X &&& Y
def orW (X Y : W) : W := X ||| Y
def addW (X Y : W) : W := X + Y
def shrW (X : W) (k : Nat) : W := X >>> k
theorem k_xor (X Y : W) : bits .xor .u32 (X.toNat : Int) (Y.toNat : Int) = ((xorW X Y).toNat : Int) := u32_xor X Y
theorem k_and (X Y : W) : bits .and .u32 (X.toNat : Int) (Y.toNat : Int) = ((andW X Y).toNat : Int) := u32_and X Y
theorem k_or (X Y : W) : bits .or .u32 (X.toNat : Int) (Y.toNat : Int) = ((orW X Y).toNat : Int) := u32_or X Y
theorem k_add (X Y : W) : ((X.toNat : Int) + (Y.toNat : Int)) % 4294967296 = ((addW X Y).toNat : Int) := u32_add' X Y
theorem k_add_wrap (X Y : W) : IntKind.u32.wrap ((X.toNat : Int) + (Y.toNat : Int)) = ((addW X Y).toNat : Int) := u32_add X Y
theorem k_shr3 (X : W) : (X.toNat : Int) / 8 = ((shrW X 3).toNat : Int) := u32_shr X 3
theorem k_shr10 (X : W) : (X.toNat : Int) / 1024 = ((shrW X 10).toNat : Int) := u32_shr X 10

theorem rotl_any (X : W) (k : Int) (s : Nat) (w : World) (hk : bits .and .u64 (IntKind.u64.wrap k) 31 = (s : Int)) (hs : s < 32) :
    Calls Try.prog 70 #[.int .u32 (X.toNat : Int), .int .i64 k] w fun e w' => e = .returned (.int .u32 ((rotl X s).toNat : Int)) ∧ w = w' := by
  go_enter Try.func70, Try.ntmps70
  go_wp2
  go_ret
  exact ⟨by rw [u32_shl', u32_shr, u32_or]; rfl, rfl⟩

theorem rotl_still (X : W) (k : Int) (s : Nat) (w : World) (hk : bits .and .u64 (IntKind.u64.wrap k) 31 = (s : Int)) (hs : s < 32) :
    Calls Try.prog 70 #[.int .u32 (X.toNat : Int), .int .i64 k] w fun e w' => e = .returned (.int .u32 ((rotl X s).toNat : Int)) ∧ w' = w := (rotl_any X k s w hk hs).mono fun _ _ h => ⟨h.1, h.2.symm⟩
/-- a byte as a word -/
def wOf (b : UInt8) : W := BitVec.ofNat 32 b.toNat
theorem wOf_val (b : UInt8) : ((wOf b).toNat : Int) = (b.toNat : Int) := by
  have := b.toNat_lt
  simp only [wOf, BitVec.toNat_ofNat]; omega
theorem be4_val (a b c d : UInt8) : bits .or .u32 (bits .or .u32 (bits .or .u32 ((a.toNat : Int) * (16777216 : Int)) ((b.toNat : Int) * (65536 : Int))) ((c.toNat : Int) * (256 : Int))) (d.toNat : Int) = ((be4 a b c d).toNat : Int) := by
  have s24 : (a.toNat : Int) * (16777216 : Int) = ((wOf a <<< 24).toNat : Int) := by
    rw [← u32_shl', wOf_val]; have := a.toNat_lt; omega
  have s16 : (b.toNat : Int) * (65536 : Int) = ((wOf b <<< 16).toNat : Int) := by
    rw [← u32_shl', wOf_val]; have := b.toNat_lt; omega
  have s8 : (c.toNat : Int) * (256 : Int) = ((wOf c <<< 8).toNat : Int) := by
    rw [← u32_shl', wOf_val]; have := c.toNat_lt; omega
  have s0 : (d.toNat : Int) = ((wOf d).toNat : Int) := (wOf_val d).symm
  rw [s24, s16, s8, s0, u32_or, u32_or, u32_or]
  rfl
theorem B8_getD (b : List UInt8) (j : Nat) (h : j < b.length) : (B8 b).toArray[j]? = some (.int .u8 ((b.getD j 0).toNat : Int)) := by
  simp [B8, h]

set_option maxHeartbeats 800000 in
theorem word_any (b : List UInt8) (i : Nat) (w : World) (hb : b.length = 64) (hi : i < 16) :
    Calls Try.prog 69 #[.agg (B8 b).toArray, .int .i64 (i : Int)] w fun e w' => e = .returned (.int .u32 ((be4 (b.getD (4 * i) 0) (b.getD (4 * i + 1) 0) (b.getD (4 * i + 2) 0) (b.getD (4 * i + 3) 0)).toNat : Int)) ∧ Below w.heap.size w w' := by
  have hc : ∀ j, j < 64 → (w.alloc (.cells (B8 b).toArray 72)).cell? ⟨w.heap.size, j, none⟩ = some (.int .u8 ((b.getD j 0).toNat : Int)) := fun j hj => (Blk.new w 72 _).cell j |>.trans (B8_getD b j (by omega))
  have hd : ∀ j, (b.getD j 0).toNat < 256 := fun j => UInt8.toNat_lt _
  have c0 := hc (4 * i) (by omega)
  have c1 := hc (4 * i + 1) (by omega)
  have c2 := hc (4 * i + 2) (by omega)
  have c3 := hc (4 * i + 3) (by omega)
  have d0 := hd (4 * i)
  have d1 := hd (4 * i + 1)
  have d2 := hd (4 * i + 2)
  have d3 := hd (4 * i + 3)
  have HV := Lib.hid (be4_val (b.getD (4 * i) 0) (b.getD (4 * i + 1) 0) (b.getD (4 * i + 2) 0) (b.getD (4 * i + 3) 0))
  clear hc hd hb
  generalize b.getD (4 * i) 0 = x0 at *
  generalize b.getD (4 * i + 1) 0 = x1 at *
  generalize b.getD (4 * i + 2) 0 = x2 at *
  generalize b.getD (4 * i + 3) 0 = x3 at *
  generalize (B8 b).toArray = cs at *
  have hi0 : (0 : Int) ≤ (i : Int) := by omega
  have hi1 : (i : Int) < 16 := by omega
  go_enter Try.func69, Try.ntmps69
  go_wp2
  go_quiet (fail)
  go_wp2
  go_ret
  exact ⟨by rw [HV.out]; rfl, below_drewN ((Below.refl _ _).alloc (Nat.le_refl _) _) _⟩
end Go.Proofs.Ytjnakhgpenafdaa
/- Rows of words in blocks: whole rows loaded and stored, ranges stored; an operation run by its own equation. -/
namespace Go.Proofs.Ytjnakhgpenafdaa
open Go.RowKit
open Sha (W)
set_option linter.unusedVariables false
set_option linter.unusedSimpArgs false

section
variable {P : Program} {ops : Array Oper} {rest : List Oper} {o : Oper} {a : Act} {Q : Exit → Act → World → Prop} {w : World}
theorem wpList_run (hgd : o.guard = none) (v : Value) (w' : World) (hrun : (execOp a.eval o).run P w = .ok (.value v) w') (h : wpList P ops Q rest (a.put o.dst v) w') : wpList P ops Q (o :: rest) a w := by
  refine wpList_plain hgd fun K hK => ?_
  unfold Oper.wp
  rw [hrun]
  exact hK _ _ h
end

theorem wpList_same {P : Program} {ops : Array Oper} {rest : List Oper} {o : Oper} {a : Act} {Q : Exit → Act → World → Prop} {w : World} (hgd : o.guard = none) (v : Value)
    (hrun : (execOp a.eval o).run P w = .ok (.value v) w) (h : wpList P ops Q rest (a.put o.dst v) w) : wpList P ops Q (o :: rest) a w := wpList_run hgd v w hrun h
theorem Blk.setCells {g : Nat} {t : TypeId} (vs : List Value) : ∀ (w : World) (o : Nat) (cs : Array Value), Blk w g t cs → o + vs.length ≤ cs.size →
    Blk (w.setCells g o vs) g t (cs.toList.take o ++ vs ++ cs.toList.drop (o + vs.length)).toArray := by
  induction vs with
  | nil => intro w o cs h _; simpa [World.setCells] using h
  | cons v r ih =>
    intro w o cs h hl
    simp only [List.length_cons] at hl
    have h1 := ih (w.setCell ⟨g, o, none⟩ v) (o + 1) (cs.setIfInBounds o v) (h.set_ o v) (by simp; omega)
    show Blk ((w.setCell ⟨g, o, none⟩ v).setCells g (o + 1) r) g t _
    have e : (cs.setIfInBounds o v).toList.take (o + 1) ++ r ++ (cs.setIfInBounds o v).toList.drop (o + 1 + r.length) = cs.toList.take o ++ (v :: r) ++ cs.toList.drop (o + (v :: r).length) := by
      rw [Array.toList_setIfInBounds, List.take_succ_eq_append_getElem (by rw [List.length_set, Array.length_toList]; omega), List.getElem_set_self, List.take_set_of_le (Nat.le_refl _), List.drop_set_of_lt (by omega)]
      simp only [List.append_assoc, List.cons_append, List.nil_append, List.length_cons]
      rw [show o + 1 + r.length = o + (r.length + 1) from by omega]
    rw [← e]
    exact h1
theorem grownBy_setCells {w0 : World} {g : Nat} (vs : List Value) : ∀ (w : World) (o : Nat), w0.grownBy w (some g) → w0.grownBy (w.setCells g o vs) (some g) := by
  induction vs with
  | nil => intro w o h; exact h
  | cons v r ih => intro w o h; exact ih _ _ (only_setCell (p := ⟨g, o, none⟩) h (.inl rfl) v)
theorem heap_setCells {g : Nat} (vs : List Value) : ∀ (w : World) (o : Nat), (w.setCells g o vs).heap.size = w.heap.size := by
  induction vs with
  | nil => intro w o; rfl
  | cons v r ih => intro w o; show ((w.setCell ⟨g, o, none⟩ v).setCells g (o + 1) r).heap.size = _; rw [ih]; simp [World.setCell]

/-- words as cells -/
def wv (x : W) : Value := .int .u32 (x.toNat : Int)
def WL (l : List W) : List Value := l.map wv
def WV (l : List W) : Array Value := (WL l).toArray
theorem WL_length (l : List W) : (WL l).length = l.length := by simp [WL]
theorem WV_size (l : List W) : (WV l).size = l.length := by simp [WV, WL]
theorem WL_one (l : List W) : ∀ u ∈ WL l, u.oneCell' = true := by
  intro u hu; simp only [WL, List.mem_map] at hu; obtain ⟨b, _, rfl⟩ := hu; rfl
theorem WV_at (l : List W) (j : Nat) (h : j < l.length) : (WV l)[j]? = some (.int .u32 ((l.getD j 0).toNat : Int)) := by
  simp [WV, WL, wv, h]
theorem WV_set (l : List W) (j : Nat) (x : W) : (WV l).setIfInBounds j (.int .u32 (x.toNat : Int)) = WV (l.set j x) := by
  simp [WV, WL, wv, List.map_set]
/-- a row of so many words of which the first are these -/
def pad (n : Nat) (l : List W) : List W := l ++ List.replicate (n - l.length) 0
theorem pad_length (n : Nat) (l : List W) (h : l.length ≤ n) : (pad n l).length = n := by simp [pad]; omega
theorem pad_set (n : Nat) (l : List W) (x : W) (h : l.length < n) : (pad n l).set l.length x = pad n (l ++ [x]) := by
  unfold pad
  obtain ⟨m, hm⟩ : ∃ m, n - l.length = m + 1 := ⟨n - l.length - 1, by omega⟩
  rw [hm, List.set_append_right _ _ (Nat.le_refl _), Nat.sub_self, List.replicate_succ, List.set_cons_zero, List.length_append, List.length_singleton, show n - (l.length + 1) = m from by omega]
  simp
theorem pad_getD (n : Nat) (l : List W) (j : Nat) (h : j < l.length) : (pad n l).getD j 0 = l.getD j 0 := by
  simp [pad, List.getElem?_append, h]
theorem pad_full (n : Nat) (l : List W) (h : l.length = n) : pad n l = l := by simp [pad, h]

section
variable {P : Program} {ops : Array Oper} {rest : List Oper} {o : Oper} {a : Act} {Q : Exit → Act → World → Prop} {w : World}
/-- a new variable -/
theorem wpList_alloc_blk (hgd : o.guard = none) (ty : TypeId) (ho : o.op = .alloc ty) (cs : Array Value) (n : Nat) (hn : w.heap.size = n)
    (hz : ∀ w, (Instr.alloc ty true (.tuple #[])).run P w = .ok (.pointer (some ⟨w.heap.size, 0, none⟩)) (w.alloc (.cells cs ty)))
    (h : wpList P ops Q rest (a.put o.dst (.pointer (some ⟨n, 0, none⟩))) (w.alloc (.cells cs ty))) : wpList P ops Q (o :: rest) a w := by
  subst hn
  refine wpList_plain hgd fun K hK => ?_
  unfold Oper.wp execOp
  simp only [ho, Sem.run_bind, Sem.run_pure, Result.andThen_ok, hz w]
  exact hK _ _ h
/-- a whole row is stored -/
theorem wpList_store_blk (hgd : o.guard = none) (ty : TypeId) (x y : Operand) (ho : o.op = .store ty x y) (g : Nat) (t : TypeId) (cs vs : Array Value) (hx : a.eval x = .pointer (some ⟨g, 0, none⟩)) (hy : a.eval y = .agg vs)
    (hb : Blk w g t cs) (hs : vs.size = cs.size) (hi : (P.info? ty).map (·.size) = some vs.size) (h1 : ∀ v ∈ vs.toList, v.oneCell' = true)
    (h : ∀ w', Blk w' g t vs → w.grownBy w' (some g) → w'.heap.size = w.heap.size → wpList P ops Q rest (a.put o.dst undef) w') : wpList P ops Q (o :: rest) a w := by
  refine wpList_store_mid hgd ty x y ho g 0 vs hx hy (fun j hj => ⟨?_, ?_⟩) hi ?_ ?_
  · rw [Nat.zero_add, hb.cell j, Array.getElem?_eq_getElem (by omega)]; rfl
  · rw [Nat.zero_add]; exact hb.frozen j
  · have := all_oneCell_toArray h1; simpa using this
  · have h2 := Blk.setCells (g := g) (t := t) vs.toList w 0 cs hb (by simp; omega)
    have e : (cs.toList.take 0 ++ vs.toList ++ cs.toList.drop (0 + vs.toList.length)).toArray = vs := by
      rw [List.take_zero, List.nil_append, List.drop_eq_nil_of_le (by simp; omega), List.append_nil]
    rw [e] at h2
    exact h _ h2 (grownBy_setCells _ _ _ (World.grownBy.refl w _)) (heap_setCells _ _ _)
end
end Go.Proofs.Ytjnakhgpenafdaa
/- digest.round256: one block into the chaining value. -/
namespace Go.Proofs.Ytjnakhgpenafdaa
open Go.RowKit
open Sha (W rotl be4)
set_option linter.unusedVariables false
set_option linter.unusedSimpArgs false

attribute [local go_sem] k_xor k_and k_or k_add k_add_wrap k_shr3 k_shr10
theorem alloc_w64 : ∀ w, (Instr.alloc 96 true (.tuple #[])).run Try.prog w = .ok (.pointer (some ⟨w.heap.size, 0, none⟩)) (w.alloc (.cells (WV (pad 64 [])) 96)) := fun w => by kernel_rfl
theorem alloc_w8 : ∀ w, (Instr.alloc 71 true (.tuple #[])).run Try.prog w = .ok (.pointer (some ⟨w.heap.size, 0, none⟩)) (w.alloc (.cells (WV (pad 8 [])) 71)) := fun w => by kernel_rfl
theorem size_w64 (l : List W) (h : l.length = 64) : (Try.prog.info? 96).map (·.size) = some (WV l).size := by
  rw [WV_size, h]; kernel_rfl
theorem size_w8 (l : List W) (h : l.length = 8) : (Try.prog.info? 71).map (·.size) = some (WV l).size := by
  rw [WV_size, h]; kernel_rfl
theorem size_b64 (l : List UInt8) (h : l.length = 64) : (Try.prog.info? 72).map (·.size) = some (B8 l).toArray.size := by
  rw [List.size_toArray, B8_length, h]; kernel_rfl

theorem nextW_eq (a b c d : W) : addW (addW (addW a (xorW (xorW (rotl b 25) (rotl b 14)) (shrW b 3))) c) (xorW (xorW (rotl d 15) (rotl d 13)) (shrW d 10)) = a + Sha.sg0 b + c + Sha.sg1 d := rfl
theorem getD_of {X : W} {l : List W} {j : Nat} (h : X = l[j]?.getD 0#32) : X = l.getD j 0 := by rw [h, List.getD_eq_getElem?_getD]; rfl
/-- the memory of a round: the block's bytes, the constants, the words so far; n: where the call's own blocks begin, g: the words' block -/
structure RMem (w : World) (bs : Array Value) (g : Nat) (wr : World) (l : List W) : Prop where
  b : Blk wr w.heap.size 72 bs
  k : Blk wr (w.heap.size + 1) 96 (WV Sha.K256)
  m : Blk wr g 96 (WV (pad 64 l))
  below : Below w.heap.size w wr
  lt : w.heap.size + 1 < g
theorem RMem.after {w wr w' : World} {bs : Array Value} {g : Nat} {l : List W} (h : RMem w bs g wr l) (hb : Below wr.heap.size wr w') : RMem w bs g w' l :=
  ⟨h.b.after hb, h.k.after hb, h.m.after hb, below_then h.below hb, h.lt⟩
theorem RMem.drewN {w wr : World} {bs : Array Value} {g : Nat} {l : List W} (h : RMem w bs g wr l) (n : Nat) : RMem w bs g (wr.drewN n) l :=
  ⟨h.b, h.k, h.m, below_drewN h.below n, h.lt⟩
theorem RMem.drew {w wr : World} {bs : Array Value} {g : Nat} {l : List W} (h : RMem w bs g wr l) : RMem w bs g wr.drew l := h.drewN 1
theorem RMem.store {w wr : World} {bs : Array Value} {g : Nat} {l : List W} (h : RMem w bs g wr l) (hl : l.length < 64) (x : W) : RMem w bs g (wr.setCell ⟨g, l.length, none⟩ (.int .u32 (x.toNat : Int))) (l ++ [x]) := by
  have h1 := h.lt
  refine ⟨h.b.far (by simp; omega) _, h.k.far (by simp; omega) _, ?_, h.below.setCell (by simp; omega) _, h.lt⟩
  have h2 := h.m.set_ l.length (.int .u32 (x.toNat : Int))
  rw [WV_set, pad_set 64 l x hl] at h2
  exact h2
theorem RMem.grown {w wr w' : World} {bs : Array Value} {g k : Nat} {l : List W} (h : RMem w bs g wr l) (hg : wr.grownBy w' (some k)) (hk : g < k) : RMem w bs g w' l := by
  have h1 := h.lt
  exact ⟨h.b.grown hg (by simp; omega), h.k.grown hg (by simp; omega), h.m.grown hg (by simp; omega), h.below.grown hg h.below.size (by intro j hj; injection hj with hj; omega), h1⟩
theorem RMem.at_ {w wr : World} {bs : Array Value} {g : Nat} {l : List W} (h : RMem w bs g wr l) (j : Nat) (hj : j < l.length) (hl : l.length ≤ 64) : wr.cell? ⟨g, j, none⟩ = some (.int .u32 ((l.getD j 0).toNat : Int)) := by
  rw [h.m.cell j, WV_at _ _ (by rw [pad_length _ _ hl]; omega), pad_getD _ _ _ hj]
theorem RMem.next {w wr : World} {bs : Array Value} {g : Nat} {l : List W} (h : RMem w bs g wr l) (hl : l.length < 64) : ∃ u, wr.cell? ⟨g, l.length, none⟩ = some u := by
  rw [h.m.cell, WV_at _ _ (by rw [pad_length _ _ (by omega)]; exact hl)]; exact ⟨_, rfl⟩
theorem word_bs (b : List UInt8) (bs : Array Value) (hbs : bs = (B8 b).toArray) (i : Nat) (w : World) (hb : b.length = 64) (hi : i < 16) :
    Calls Try.prog 69 #[.agg bs, .int .i64 (i : Int)] w fun e w' => e = .returned (.int .u32 ((be4 (b.getD (4 * i) 0) (b.getD (4 * i + 1) 0) (b.getD (4 * i + 2) 0) (b.getD (4 * i + 3) 0)).toNat : Int)) ∧ Below w.heap.size w w' := by
  subst hbs; exact word_any b i w hb hi
theorem size_bs (b : List UInt8) (bs : Array Value) (hbs : bs = (B8 b).toArray) (h : b.length = 64) : (Try.prog.info? 72).map (·.size) = some bs.size := by
  subst hbs; exact size_b64 b h

/-- a chaining value, and what stands behind it in its block -/
def hrow (h : Sha.V8) (tail : List Value) : Array Value := (WL h.list ++ tail).toArray
theorem hrow_range {w : World} {g : Nat} {t : TypeId} {h : Sha.V8} {tail : List Value} (hb : Blk w g t (hrow h tail)) : w.rangeAt g 0 (WL h.list) := by
  intro j v hj
  rw [Nat.zero_add, hb.cell j]
  have hl : j < (WL h.list).length := (List.getElem?_eq_some_iff.1 hj).1
  simp only [hrow, List.getElem?_toArray]
  rw [List.getElem?_append_left hl]
  exact hj
/-- so many of the new words, then the old ones -/
def mix (s l : List W) (i : Nat) : List W := s.take i ++ l.drop i
theorem mix_length (s l : List W) (i : Nat) (hs : s.length = 8) (hl : l.length = 8) (hi : i ≤ 8) : (mix s l i).length = 8 := by simp [mix]; omega
theorem mix_set (s l : List W) (i : Nat) (hs : s.length = 8) (hl : l.length = 8) (hi : i < 8) : (mix s l i).set i (s.getD i 0) = mix s l (i + 1) := by
  unfold mix
  have e1 : (s.take i).length = i := by simp; omega
  rw [List.set_append_right _ _ (by omega), e1, Nat.sub_self, List.drop_eq_getElem_cons (by omega), List.set_cons_zero, List.take_succ_eq_append_getElem (by omega), List.append_assoc, List.getD_eq_getElem?_getD, List.getElem?_eq_getElem (show i < s.length by omega)]
  rfl
theorem mix_getD (s l : List W) (i : Nat) (hs : s.length = 8) (hl : l.length = 8) (hi : i < 8) : (mix s l i).getD i 0 = l.getD i 0 := by
  unfold mix
  have e1 : (s.take i).length = i := by simp; omega
  simp [List.getElem?_append, e1]
theorem mix_zero (s l : List W) : mix s l 0 = l := by simp [mix]
theorem mix_all (s l : List W) (hs : s.length = 8) (hl : l.length = 8) : mix s l 8 = s := by simp [mix, ← hs, List.drop_eq_nil_of_le (show l.length ≤ s.length by omega)]
theorem hrow_at (l : List W) (tail : List Value) (i : Nat) (h : i < l.length) : (WL l ++ tail).toArray[i]? = some (.int .u32 ((l.getD i 0).toNat : Int)) := by
  have h2 := WV_at l i h
  simp only [WV, List.getElem?_toArray] at h2 ⊢
  rw [List.getElem?_append_left (by rw [WL_length]; exact h)]
  exact h2
theorem hrow_set (l : List W) (tail : List Value) (i : Nat) (x : W) (h : i < l.length) : (WL l ++ tail).toArray.setIfInBounds i (.int .u32 (x.toNat : Int)) = (WL (l.set i x) ++ tail).toArray := by
  simp only [List.setIfInBounds_toArray]
  rw [List.set_append_left _ _ (by rw [WL_length]; exact h)]
  simp [WL, wv, List.map_set]
theorem add_getD (h v : Sha.V8) (i : Nat) (hi : i < 8) : (h.add v).list.getD i 0 = addW (h.list.getD i 0) (v.list.getD i 0) := by
  match i, hi with
  | 0, _ => rfl
  | 1, _ => rfl
  | 2, _ => rfl
  | 3, _ => rfl
  | 4, _ => rfl
  | 5, _ => rfl
  | 6, _ => rfl
  | 7, _ => rfl
theorem index_w64 (ws : List W) (hl : ws.length = 64) (i : Nat) (hi : i < 64) (w : World) :
    (Instr.index 96 (.agg (WV ws)) (.int .i64 (i : Int))).run Try.prog w = .ok (.int .u32 ((ws.getD i 0).toNat : Int)) w := by
  have h0 : (0 : Int) ≤ (i : Int) ∧ (i : Int) < 64 := by omega
  have hc := WV_at ws i (by omega)
  simp [Instr.index, run_underlying Try.underlying96, asIntOf, h0, go_sem, hc]
  intro h; omega

set_option maxRecDepth 100000 in
set_option maxHeartbeats 4000000 in
theorem round_any (g : Nat) (t : TypeId) (h : Sha.V8) (tail : List Value) (b : List UInt8) (hb : b.length = 64) (w : World) (hg : Blk w g t (hrow h tail)) :
    Calls Try.prog 66 #[.pointer (some ⟨g, 0, none⟩), .agg (B8 b).toArray] w fun e w' => e = .returned (.tuple #[]) ∧ Blk w' g t (hrow (Sha.comp1 h b) tail) ∧ w.grownBy w' (some g) := by
  obtain ⟨bs, hbs⟩ : ∃ bs, bs = (B8 b).toArray := ⟨_, rfl⟩
  rw [← hbs]
  have HBS := Lib.hid hbs
  have HSZ := Lib.hid (size_bs b bs hbs hb)
  have HB := Lib.hid hb
  have HG := Lib.hid hg
  clear hbs hb hg
  go_enter Try.func66, Try.ntmps66
  go_wp2_with (first
    | (refine wpList_same (o := ⟨some 17, _, _, _, _, _⟩) (by rfl) (.agg (WV Sha.K256)) (by kernel_rfl) ?_)
    | (refine wpList_alloc_blk (o := ⟨some 4, _, _, _, _, _⟩) (by rfl) 96 (by rfl) _ (w.heap.size + 1) (by simp) alloc_w64 ?_)
    | (refine wpList_store_blk (o := ⟨none, _, _, _, _, _⟩) (by rfl) 96 (.tmp 4) (.tmp 17) (by rfl) (w.heap.size + 1) 96 _ (WV Sha.K256) (by rfl) (by rfl) (Blk.new_ (w.alloc (.cells bs 72)) 96 (WV (pad 64 [])) (by simp)) (by rw [WV_size, WV_size]; rfl) (size_w64 _ rfl) (by intro v hv; exact WL_one _ v hv) ?_; intro w2 hK2 hg2 hz2)
    | (refine wpList_alloc_blk (o := ⟨some 5, _, _, _, _, _⟩) (by rfl) 96 (by rfl) _ w2.heap.size (by rfl) alloc_w64 ?_))
  have hM : RMem w bs (w.heap.size + 1 + 1) (w2.alloc (.cells (WV (pad 64 [])) 96)) [] := by
    have hz : w2.heap.size = w.heap.size + 1 + 1 := by rw [hz2]; simp
    have hb1 : Blk ((w.alloc (.cells bs 72)).alloc (.cells (WV (pad 64 [])) 96)) w.heap.size 72 bs := (Blk.new w _ _).alloc _
    refine ⟨(hb1.grown hg2 (by simp)).alloc _, hK2.alloc _, Blk.new_ _ _ _ hz, ((((Below.refl _ _).alloc (Nat.le_refl _) _).alloc (by simp) _).grown hg2 (by simp; omega) (by intro k hk; injection hk with hk; omega)).alloc (by omega) _, by omega⟩
  generalize w2.alloc (.cells (WV (pad 64 [])) 96) = w3 at *
  clear hK2 hg2 hz2
  go_loopw [18] (fun i wr => ∃ n : Nat, n ≤ 64 ∧ i = .int .i64 (n : Int) ∧ RMem w bs (w.heap.size + 1 + 1) wr (Sha.sched b n)) (fun i _ => (64 - intOf i).toNat)
  case atStart => exact ⟨0, by omega, rfl, hM⟩
  case round =>
    clear hM
    obtain ⟨n, hn, rfl, hM⟩ := hrel
    have HL := Lib.hid (Sha.sched_length b n)
    by_cases h16 : n < 16
    · obtain ⟨u, hu⟩ := hM.next (by rw [HL.out]; omega)
      rw [HL.out] at hu
      go_wp2_with (first
        | (refine wpList_load_row (o := ⟨some 24, _, _, _, _, _⟩) (by rfl) 72 (.tmp 3) (by rfl) w.heap.size (by rfl) 72 bs (0, 0) _ hM.b Try.underlying72 rfl HSZ.out ?_)
        | (go_at_call 69; ((with_reducible refine (word_bs b bs HBS.out n _ HB.out h16).mono ?_); rintro e w4 ⟨rfl, hb4⟩; have hM4 := hM.after hb4; have kc := (cell_later hb4 hu); have kf := hM4.m.frozen n)))
      go_roundw
      case rel =>
        have h := hM4.store (by rw [HL.out]; omega) (be4 (b.getD (4 * n) 0) (b.getD (4 * n + 1) 0) (b.getD (4 * n + 2) 0) (b.getD (4 * n + 3) 0))
        rw [HL.out] at h
        refine ⟨n + 1, by omega, by go_num, ?_⟩
        rw [Sha.sched, Sha.nextW, if_pos h16]
        exact h
      case measure => simp [intOf]; omega
    · by_cases h64 : n < 64
      · have x0 : (0 : Int) ≤ (n : Int) := by omega
        have c15 := hM.at_ (n - 15) (by rw [HL.out]; omega) (by rw [HL.out]; omega)
        have c2 := hM.at_ (n - 2) (by rw [HL.out]; omega) (by rw [HL.out]; omega)
        have hM0 := hM
        go_wp2
        go_quiet (fail)
        have hM := (hM0.drewN nq).drew
        clear c15 c2 hM0
        obtain ⟨X15, hX15⟩ : ∃ X : W, X = (Sha.sched b n)[n - 15]?.getD 0#32 := ⟨_, rfl⟩
        obtain ⟨X2, hX2⟩ : ∃ X : W, X = (Sha.sched b n)[n - 2]?.getD 0#32 := ⟨_, rfl⟩
        obtain ⟨X16, hX16⟩ : ∃ X : W, X = (Sha.sched b n).getD (n - 16) 0 := ⟨_, rfl⟩
        obtain ⟨X7, hX7⟩ : ∃ X : W, X = (Sha.sched b n).getD (n - 7) 0 := ⟨_, rfl⟩
        rw [← hX15, ← hX2]
        have c16 := hM.at_ (n - 16) (by rw [HL.out]; omega) (by rw [HL.out]; omega)
        have c7 := hM.at_ (n - 7) (by rw [HL.out]; omega) (by rw [HL.out]; omega)
        rw [← hX16] at c16
        rw [← hX7] at c7
        obtain ⟨u, hu⟩ := hM.next (by rw [HL.out]; omega)
        rw [HL.out] at hu
        have hf := hM.m.frozen n
        have HX := Lib.hid (And.intro hX15 (And.intro hX2 (And.intro hX16 hX7)))
        clear hX15 hX2 hX16 hX7
        go_wp2
        refine wp_region_still_tail 29 (by kernel_rfl) (by kernel_rfl) ?_
        change wpStill _ _ (wr.drewN nq).drew (fun a' => wpList _ _ _ _ a' (wr.drewN nq).drew) _ _
        simp only [List.take_succ_cons, List.take_zero, List.drop_succ_cons, List.drop_zero]
        generalize (wr.drewN nq).drew = w6 at *
        have e16 : IntKind.i64.wrap ((n : Int) - 16) = (n : Int) - 16 := IntWalk.i64_in _ (by omega)
        have e16a : (0 : Int) ≤ (n : Int) - 16 := by omega
        have e16b : (n : Int) - 16 < 64 := by omega
        have e16c : ((n : Int) - 16).toNat = n - 16 := by omega
        have e7 : IntKind.i64.wrap ((n : Int) - 7) = (n : Int) - 7 := IntWalk.i64_in _ (by omega)
        have e7d : (7 : Int) ≤ (n : Int) := by omega
        have e16d : (16 : Int) ≤ (n : Int) := by omega
        have e7a : (0 : Int) ≤ (n : Int) - 7 := by omega
        have e7b : (n : Int) - 7 < 64 := by omega
        have e7c : ((n : Int) - 7).toNat = n - 7 := by omega
        repeat still_step
        still_call (rotl_still X15 (-7) 25 w6 (by decide) (by omega))
        repeat still_step
        still_call (rotl_still X15 (-18) 14 w6 (by decide) (by omega))
        repeat still_step
        still_call (rotl_still X2 (-17) 15 w6 (by decide) (by omega))
        repeat still_step
        still_call (rotl_still X2 (-19) 13 w6 (by decide) (by omega))
        repeat still_step
        refine wpStill_nil ?_
        clear e16 e16a e16b e16c e16d e7 e7a e7b e7c e7d c16 c7
        go_wp2
        go_roundw
        case rel =>
          have h := hM.store (by rw [HL.out]; omega) (addW (addW (addW X16 (xorW (xorW (rotl X15 25) (rotl X15 14)) (shrW X15 3))) X7) (xorW (xorW (rotl X2 15) (rotl X2 13)) (shrW X2 10)))
          rw [HL.out] at h
          refine ⟨n + 1, by omega, by go_num, ?_⟩
          rw [Sha.sched, Sha.nextW, if_neg h16]
          obtain ⟨q1, q2, q3, q4⟩ := HX.out
          rw [← nextW_eq, ← q3, ← q4, ← getD_of q1, ← getD_of q2]
          exact h
        case measure => simp [intOf]; omega
      · have h64' : (64 : Int) ≤ (n : Int) := by omega
        obtain ⟨ws, hws⟩ : ∃ ws, ws = Sha.sched b n := ⟨_, rfl⟩
        rw [← hws] at hM
        have hlen : ws.length = 64 := by rw [hws, HL.out]; omega
        have hws' : ws = Sha.sched b 64 := by rw [hws]; congr 1; omega
        have HW := Lib.hid (And.intro hws' hlen)
        have hR := hrow_range (HG.out.below hM.below HG.out.lt)
        clear h16 h64 HL hws hws' hlen
        go_wp2_with (first
          | (refine wpList_load_mid (op := ⟨some 68, _, _, _, _, _⟩) (by rfl) 71 (.tmp 67) (by rfl) g 0 (by rfl) (WL h.list) _ hR Try.underlying71 (by rfl) (by rw [WL_length]; kernel_rfl) ?_)
          | (refine wpList_alloc_blk (o := ⟨some 9, _, _, _, _, _⟩) (by rfl) 71 (by rfl) _ wr.heap.size (by rfl) alloc_w8 ?_)
          | (refine wpList_store_blk (o := ⟨none, _, _, _, _, _⟩) (by rfl) 71 (.tmp 9) (.tmp 68) (by rfl) wr.heap.size 71 _ (WV h.list) (by rfl) (by rfl) (Blk.new wr 71 (WV (pad 8 []))) (by rw [WV_size, WV_size]; rfl) (size_w8 _ rfl) (by intro v hv; exact WL_one _ v hv) ?_; intro w5 hV5 hg5 hz5; have hM5 := (hM.after ((Below.refl _ _).alloc (Nat.le_refl _) _)).grown hg5 hM.m.lt)
          | (refine wpList_load_row (o := ⟨some 69, _, _, _, _, _⟩) (by rfl) 96 (.tmp 5) (by rfl) (w.heap.size + 1 + 1) (by rfl) 96 (WV (pad 64 ws)) (0, 0) _ hM5.m Try.underlying96 rfl (size_w64 _ (pad_length 64 ws (by rw [HW.out.2]; omega))) ?_; rw [pad_full 64 ws HW.out.2]))
        have hlt9 : w.heap.size + 1 + 1 < wr.heap.size := hM.m.lt
        generalize wr.heap.size = g9 at *
        clear hM hR hg5 hz5
        go_loopw [70] (fun i w' => ∃ n : Nat, n ≤ 64 ∧ i = .int .i64 (n : Int) ∧ RMem w bs (w.heap.size + 1 + 1) w' ws ∧ Blk w' g9 71 (WV (Sha.rounds Sha.ch1 Sha.mj1 ws h n).list)) (fun i _ => (64 - intOf i).toNat)
        case atStart => exact ⟨0, by omega, rfl, hM5, hV5⟩
        case round =>
          clear hM5 hV5
          obtain ⟨n2, hn2, rfl, hM, hV⟩ := hrel
          by_cases h64 : n2 < 64
          · have hix := fun w => index_w64 ws HW.out.2 n2 h64 w
            obtain ⟨x, hx⟩ : ∃ x : W, x = ws.getD n2 0 := ⟨_, rfl⟩
            rw [← hx] at hix
            obtain ⟨kx, hkx⟩ : ∃ x : W, x = Sha.K256.getD n2 0 := ⟨_, rfl⟩
            have hk : wr.cell? ⟨w.heap.size + 1, n2, none⟩ = some (.int .u32 (kx.toNat : Int)) := by
              rw [hM.k.cell, WV_at _ _ (by simpa [Sha.K256] using h64), hkx]
            have HV := Lib.hid (And.intro hx hkx)
            obtain ⟨v, hv⟩ : ∃ v, v = Sha.rounds Sha.ch1 Sha.mj1 ws h n2 := ⟨_, rfl⟩
            rw [← hv] at hV
            obtain ⟨va, vb, vc, vd, ve, vf, vg, vh⟩ := v
            have HR := Lib.hid hv
            clear hx hkx hv
            have hm : Blk wr g9 71 (WV [va, vb, vc, vd, ve, vf, vg, vh]) := hV
            have k0 : wr.cell? ⟨g9, 0, none⟩ = some (.int .u32 (va.toNat : Int)) := hm.cell 0
            have k4 : wr.cell? ⟨g9, 4, none⟩ = some (.int .u32 (ve.toNat : Int)) := hm.cell 4
            have HM := Lib.hid (And.intro hM hm)
            clear hM hV hm
            go_wp2
            go_quiet (fail)
            go_wp2
            clear k0 k4
            have hm := (HM.out.2.drewN nq).drew
            have k4 : (wr.drewN nq).drew.cell? ⟨g9, 4, none⟩ = some (.int .u32 (ve.toNat : Int)) := hm.cell 4
            have k5 : (wr.drewN nq).drew.cell? ⟨g9, 5, none⟩ = some (.int .u32 (vf.toNat : Int)) := hm.cell 5
            have k6 : (wr.drewN nq).drew.cell? ⟨g9, 6, none⟩ = some (.int .u32 (vg.toNat : Int)) := hm.cell 6
            have k7 : (wr.drewN nq).drew.cell? ⟨g9, 7, none⟩ = some (.int .u32 (vh.toNat : Int)) := hm.cell 7
            have hk' : (wr.drewN nq).drew.cell? ⟨w.heap.size + 1, n2, none⟩ = some (.int .u32 (kx.toNat : Int)) := hk
            have HM2 := Lib.hid (And.intro ((HM.out.1.drewN nq).drew) hm)
            clear hk hm HM
            refine wp_region_still_lit (by kernel_rfl) (by kernel_rfl) ?_
            change wpStill _ _ (wr.drewN nq).drew (fun a' => (_ : Exit → Act → World → Prop) Exit.normal a' (wr.drewN nq).drew) _ _
            generalize (wr.drewN nq).drew = w8 at *
            have x20 : (0 : Int) ≤ (n2 : Int) := by omega
            have x64 : (n2 : Int) < 64 := by omega
            repeat still_step
            still_call (rotl_still ve (-6) 26 w8 (by decide) (by omega))
            repeat still_step
            still_call (rotl_still ve (-11) 21 w8 (by decide) (by omega))
            repeat still_step
            still_call (rotl_still ve (-25) 7 w8 (by decide) (by omega))
            repeat still_step
            refine wpStill_nil ?_
            clear k4 k5 k6 k7 hk'
            obtain ⟨tt, htt⟩ : ∃ X : W, X = addW (addW (addW (addW vh (xorW (xorW (rotl ve 26) (rotl ve 21)) (rotl ve 7))) (xorW vg (andW ve (xorW vf vg)))) kx) x := ⟨_, rfl⟩
            rw [← htt]
            have HT := Lib.hid htt
            clear htt
            go_wp2
            have hm := HM2.out.2.drew
            have k1 : w8.drew.cell? ⟨g9, 1, none⟩ = some (.int .u32 (vb.toNat : Int)) := hm.cell 1
            have k2 : w8.drew.cell? ⟨g9, 2, none⟩ = some (.int .u32 (vc.toNat : Int)) := hm.cell 2
            have HM3 := Lib.hid (And.intro HM2.out.1.drew hm)
            clear hm HM2
            refine wp_region_still_lit (by kernel_rfl) (by kernel_rfl) ?_
            change wpStill _ _ w8.drew (fun a' => (_ : Exit → Act → World → Prop) Exit.normal a' w8.drew) _ _
            generalize w8.drew = w9 at *
            repeat still_step
            still_call (rotl_still va (-2) 30 w9 (by decide) (by omega))
            repeat still_step
            still_call (rotl_still va (-13) 19 w9 (by decide) (by omega))
            repeat still_step
            still_call (rotl_still va (-22) 10 w9 (by decide) (by omega))
            repeat still_step
            refine wpStill_nil ?_
            clear k1 k2
            obtain ⟨uu, huu⟩ : ∃ X : W, X = addW (xorW (xorW (rotl va 30) (rotl va 19)) (rotl va 10)) (orW (andW va vb) (andW vc (orW va vb))) := ⟨_, rfl⟩
            rw [← huu]
            have HU := Lib.hid huu
            clear huu
            have hm := HM3.out.2
            have k0 : w9.cell? ⟨g9, 0, none⟩ = some (.int .u32 (va.toNat : Int)) := hm.cell 0
            have k1 : w9.cell? ⟨g9, 1, none⟩ = some (.int .u32 (vb.toNat : Int)) := hm.cell 1
            have k2 : w9.cell? ⟨g9, 2, none⟩ = some (.int .u32 (vc.toNat : Int)) := hm.cell 2
            have k3 : w9.cell? ⟨g9, 3, none⟩ = some (.int .u32 (vd.toNat : Int)) := hm.cell 3
            have k4 : w9.cell? ⟨g9, 4, none⟩ = some (.int .u32 (ve.toNat : Int)) := hm.cell 4
            have k5 : w9.cell? ⟨g9, 5, none⟩ = some (.int .u32 (vf.toNat : Int)) := hm.cell 5
            have k6 : w9.cell? ⟨g9, 6, none⟩ = some (.int .u32 (vg.toNat : Int)) := hm.cell 6
            clear hm
            go_wp2_with (refine wpList_store_blk (o := ⟨none, _, _, _, _, _⟩) (by rfl) 71 (.tmp 9) (.tmp 146) (by rfl) g9 71 _ (WV [addW tt uu, va, vb, vc, addW vd tt, ve, vf, vg]) (by rfl) (by rfl) HM3.out.2 (by rw [WV_size, WV_size]; rfl) (size_w8 _ rfl) (by intro v hv; exact WL_one _ v hv) ?_; intro w10 hV10 hg10 hz10)
            go_roundw
            case rel =>
              refine ⟨n2 + 1, by omega, by go_num, HM3.out.1.grown hg10 hlt9, ?_⟩
              rw [show Sha.rounds Sha.ch1 Sha.mj1 ws h (n2 + 1) = Sha.rnd Sha.ch1 Sha.mj1 (Sha.rounds Sha.ch1 Sha.mj1 ws h n2) (Sha.K256.getD n2 0) (ws.getD n2 0) from rfl, ← HR.out, ← HV.out.1, ← HV.out.2]
              rw [HT.out, HU.out] at hV10
              exact hV10
            case measure => simp [intOf]; omega
          · have h64'' : (64 : Int) ≤ (n2 : Int) := by omega
            obtain ⟨v, hv⟩ : ∃ v, v = Sha.rounds Sha.ch1 Sha.mj1 ws h n2 := ⟨_, rfl⟩
            rw [← hv] at hV
            have hv2 : v = Sha.rounds Sha.ch1 Sha.mj1 (Sha.sched b 64) h 64 := by rw [hv, HW.out.1]; congr 1; omega
            have HE := Lib.hid (show h.add v = Sha.comp1 h b by rw [hv2]; rfl)
            have hB := hM.below
            have hG := HG.out.below hB HG.out.lt
            have hgl : g < w.heap.size := HG.out.lt
            clear hv hv2 hM h64 hn2
            go_wp2_with fail
            go_loopw [148] (fun i w' => ∃ n : Nat, n ≤ 8 ∧ i = .int .i64 (n : Int) ∧ Blk w' g t (WL (mix (h.add v).list h.list n) ++ tail).toArray ∧ Blk w' g9 71 (WV v.list) ∧ w.grownBy w' (some g)) (fun i _ => (8 - intOf i).toNat)
            case atStart => exact ⟨0, by omega, rfl, by rw [mix_zero]; exact hG, hV, only_of_below hB _⟩
            case round =>
              clear hG hV hB
              obtain ⟨n3, hn3, rfl, hG, hV, hgr⟩ := hrel
              by_cases h8 : n3 < 8
              · obtain ⟨X, hX⟩ : ∃ X : W, X = h.list.getD n3 0 := ⟨_, rfl⟩
                obtain ⟨Y, hY⟩ : ∃ Y : W, Y = v.list.getD n3 0 := ⟨_, rfl⟩
                have hl8 := mix_length (h.add v).list h.list n3 rfl rfl (by omega)
                have kg : wr.drew.cell? ⟨g, n3, none⟩ = some (.int .u32 (X.toNat : Int)) := by
                  rw [hG.drew.cell, hrow_at _ _ _ (by omega), mix_getD _ _ _ rfl rfl h8, hX]
                have kv : wr.drew.cell? ⟨g9, n3, none⟩ = some (.int .u32 (Y.toNat : Int)) := by
                  rw [hV.drew.cell, WV_at _ _ (by exact h8), hY]
                have kf := hG.drew.frozen n3
                have HXY := Lib.hid (show addW X Y = (h.add v).list.getD n3 0 by rw [hX, hY, add_getD _ _ _ h8])
                have HH := Lib.hid (And.intro hl8 (And.intro hG.drew (And.intro hV.drew (only_drew hgr))))
                clear hX hY hl8 hG hV hgr
                have x30 : (0 : Int) ≤ (n3 : Int) := by omega
                have x38 : (n3 : Int) < 8 := by omega
                go_wp2
                refine wp_region_still_tail 11 (by kernel_rfl) (by kernel_rfl) ?_
                change wpStill _ _ wr.drew (fun a' => wpList _ _ _ _ a' wr.drew) _ _
                simp only [List.take_succ_cons, List.take_zero, List.drop_succ_cons, List.drop_zero]
                generalize wr.drew = w6 at *
                repeat still_step
                refine wpStill_nil ?_
                go_wp2
                go_roundw
                case rel =>
                  obtain ⟨hl8, hG, hV, hgr⟩ := HH.out
                  have h1 := hG.set_ n3 (.int .u32 ((addW X Y).toNat : Int))
                  rw [hrow_set _ _ _ _ (by omega), HXY.out, mix_set _ _ _ rfl rfl h8] at h1
                  refine ⟨n3 + 1, by omega, by go_num, ?_, hV.far (by simp; omega) _, only_setCell (p := ⟨g, n3, none⟩) hgr (.inl rfl) _⟩
                  rw [← HXY.out] at h1
                  exact h1
                case measure => simp [intOf]; omega
              · have h8' : (8 : Int) ≤ (n3 : Int) := by omega
                obtain rfl : n3 = 8 := by omega
                rw [mix_all _ _ rfl rfl, HE.out] at hG
                go_wp2_with fail
                go_end0
                exact ⟨rfl, hG, hgr⟩
end Go.Proofs.Ytjnakhgpenafdaa
/- digest: the state of a hash on its way; start256, add, sum, Sha256. -/
namespace Go.Proofs.Ytjnakhgpenafdaa
open Go.RowKit
open Sha (W St)
set_option linter.unusedVariables false
set_option linter.unusedSimpArgs false

def fn256 : Value := .func (.func 66) #[] #[]
/-- what stands behind the chaining value -/
def stTail (s : St) : List Value := B8 s.blk ++ [.int .u64 (s.n : Int), fn256]
def stRow (s : St) : Array Value := hrow s.h (stTail s)
theorem stRow_size (s : St) (hb : s.blk.length = 64) : (stRow s).size = 74 := by
  simp [stRow, hrow, stTail, WL, Sha.V8.list, B8, hb]
theorem stRow_one (s : St) : ∀ v ∈ (stRow s).toList, v.oneCell' = true := by
  intro v hv
  simp only [stRow, hrow, stTail, List.mem_append] at hv
  rcases hv with hv | hv | hv
  · exact WL_one _ v hv
  · exact B8_one _ v hv
  · simp only [List.mem_cons, List.not_mem_nil, or_false] at hv
    rcases hv with rfl | rfl <;> rfl
theorem size_st (s : St) (hb : s.blk.length = 64) : (Try.prog.info? 75).map (·.size) = some (stRow s).size := by
  rw [stRow_size s hb]; kernel_rfl
def start : St := ⟨Sha.H0, Sha.zeros64, 0⟩
def zeroSt : Array Value := (WL (List.replicate 8 0) ++ (B8 Sha.zeros64 ++ [Value.int .u64 0, Value.nilFunc])).toArray
theorem alloc_st : ∀ w, (Instr.alloc 75 true (.tuple #[])).run Try.prog w = .ok (.pointer (some ⟨w.heap.size, 0, none⟩)) (w.alloc (.cells zeroSt 75)) := fun w => by kernel_rfl

set_option maxRecDepth 100000 in
theorem start_any (w : World) :
    Calls Try.prog 55 #[] w fun e w' => e = .returned (.agg (stRow start)) ∧ Below w.heap.size w w' := by
  go_enter Try.func55, Try.ntmps55
  go_wp2_with (first
    | (refine wpList_alloc_blk (o := ⟨some 0, _, _, _, _, _⟩) (by rfl) 75 (by rfl) _ w.heap.size (by rfl) alloc_st ?_)
    | (refine wpList_same (o := ⟨some 1, _, _, _, _, _⟩) (by rfl) (.agg (WV Sha.H0.list)) (by kernel_rfl) ?_)
    | (refine wpList_same (o := ⟨some 2, _, _, _, _, _⟩) (by rfl) (.agg (stRow start)) (by kernel_rfl) ?_)
    | (refine wpList_store_blk (o := ⟨none, _, _, _, _, _⟩) (by rfl) 75 (.tmp 0) (.tmp 2) (by rfl) w.heap.size 75 _ (stRow start) (by rfl) (by rfl) (Blk.new w 75 zeroSt) (by rfl) (size_st start rfl) (stRow_one start) ?_; intro w2 hK2 hg2 hz2))
  exact bodyPost_ret (results_cell_row rfl _ _ w.heap.size 75 (stRow start) (0, 0) _ rfl hK2 Try.underlying75 rfl (size_st start rfl)) rfl ⟨rfl, ((Below.refl _ _).alloc (Nat.le_refl _) _).grown hg2 (by simp) (by intro k hk; injection hk with hk; omega)⟩

/-- bytes that are read, and do not lie in block g -/
structure ReadsX (w : World) (g : Nat) (A : Option Addr) (n : Nat) (l : List UInt8) : Prop where
  len : l.length = n
  at_ : 0 < n → ∃ ad, A = some ad ∧ ad.block ≠ g ∧ ad.block < w.heap.size ∧ ∀ j u, (B8 l)[j]? = some u → w.cell? (ad.add j) = some u
theorem ReadsX.keep {w w' : World} {g : Nat} {A : Option Addr} {n : Nat} {l : List UInt8} (h : ReadsX w g A n l) (hg : w.grownBy w' (some g)) : ReadsX w' g A n l :=
  ⟨h.len, fun hn => by
    obtain ⟨ad, e, h1, h2, h3⟩ := h.at_ hn
    refine ⟨ad, e, h1, Nat.lt_of_lt_of_le h2 hg.size, fun j u hu => ?_⟩
    rw [World.cell?_of_block (hg.block _ (by rw [block_of_add]; exact h2) (by rw [block_of_add]; intro e; injection e with e; exact h1 e))]
    exact h3 j u hu⟩
theorem ReadsX.cut {w : World} {g : Nat} {A : Option Addr} {n : Nat} {l : List UInt8} (h : ReadsX w g A n l) {k cap : Nat} (hk : k ≤ n) (hc : n ≤ cap) :
    ReadsX w g (if cap = k then A else A.map (·.add k)) (n - k) (l.drop k) := by
  refine ⟨by rw [List.length_drop, h.len], fun hn => ?_⟩
  obtain ⟨ad, rfl, h1, h2, h3⟩ := h.at_ (by omega)
  rw [if_neg (by omega)]
  refine ⟨ad.add k, rfl, by rw [block_of_add]; exact h1, by rw [block_of_add]; exact h2, fun j u hu => ?_⟩
  rw [add_of_add]
  refine h3 _ u ?_
  rw [← hu]
  simp [B8, List.getElem?_drop]
theorem Reads.apart {w : World} {B g : Nat} {A : Option Addr} {n : Nat} {l : List UInt8} (h : Reads w B 1 A n (B8 l)) (hB : B ≤ g) (hg : g ≤ w.heap.size) : ReadsX w g A n l :=
  ⟨h.bytes_length, fun hn => by
    obtain ⟨ad, e, h1, h2⟩ := h.2 hn
    exact ⟨ad, e, by omega, by omega, h2⟩⟩

theorem wpList_copy_bytes {ops : Array Oper} {rest : List Oper} {o : Oper} {a : Act} {Q : Exit → Act → World → Prop} {w : World} (hgd : o.guard = none) (d x : Operand)
    (ho : o.op = .call { callee := .builtin .copy, args := #[d, x], argTypes := #[25, 25] }) (g off dLen dCap : Nat) (ad : Addr) (sLen sCap : Nat) (hd : a.eval d = .slice (some ⟨g, off, none⟩) dLen dCap) (hx : a.eval x = .slice (some ad) sLen sCap)
    (cur : Array Value) (t : TypeId) (hg : Blk w g t cur) (m : List UInt8) (k : Nat) (hk : k = min sLen dLen) (hm : m.length = sLen) (hsrc : ∀ j u, (B8 m)[j]? = some u → w.cell? (ad.add j) = some u) (hfit : off + k ≤ cur.size)
    (h : ∀ w', Blk w' g t (cur.toList.take off ++ (B8 (m.take k) ++ cur.toList.drop (off + (B8 (m.take k)).length))).toArray → w.grownBy w' (some g) → w'.heap.size = w.heap.size → wpList Try.prog ops Q rest (a.put o.dst (.int .i64 (k : Int))) w') :
    wpList Try.prog ops Q (o :: rest) a w := by
  have e1 : (B8 (m.take k)).length = k := by rw [B8_length, List.length_take]; omega
  refine wpList_copy_own hgd d x 25 25 ho 5 Try.underlying25 (by kernel_rfl) g off dLen dCap ad sLen sCap hd hx cur t hg (B8 (m.take k)) (by rw [e1, hk]) ?_ (by rw [e1]; exact hfit) (B8_one _) ?_
  · intro j v hj
    have hl : j < k := by rw [← e1]; exact (List.getElem?_eq_some_iff.1 hj).1
    refine hsrc j v ?_
    rw [← hj]
    simp only [B8, List.map_take, List.getElem?_take, hl, if_true]
  · rw [e1]
    refine h _ ?_ ⟨rfl, rfl, rfl, by simp [World.setRow], fun i hi hne => setRow_other w g i _ (fun e => hne (by rw [e]))⟩ (by simp [World.setRow])
    rw [e1]
    exact setRow_heap w g _ _ t _ hg

/-- so many bytes into the block -/
def laid (s : St) (m : List UInt8) (k : Nat) : St := ⟨s.h, s.blk.take (s.n % 64) ++ m.take k ++ s.blk.drop (s.n % 64 + k), s.n⟩
def counted (s : St) (k : Nat) : St := ⟨s.h, s.blk, s.n + k⟩
theorem laid_length (s : St) (m : List UInt8) (k : Nat) (hb : s.blk.length = 64) (hk : k ≤ m.length) (hr : s.n % 64 + k ≤ 64) : (laid s m k).blk.length = 64 := by
  simp [laid]; omega
theorem stRow_laid (s : St) (m : List UInt8) (k : Nat) (hb : s.blk.length = 64) (hk : k ≤ m.length) (hr : s.n % 64 + k ≤ 64) :
    ((stRow s).toList.take (8 + s.n % 64) ++ (B8 (m.take k) ++ (stRow s).toList.drop (8 + s.n % 64 + (B8 (m.take k)).length))).toArray = stRow (laid s m k) := by
  have h8 : (WL s.h.list).length = 8 := rfl
  have e1 : (B8 (m.take k)).length = k := by rw [B8_length, List.length_take]; omega
  have e2 : (B8 s.blk).length = 64 := by rw [B8_length]; exact hb
  rw [e1]
  simp only [stRow, hrow, stTail, laid]
  congr 1
  rw [List.take_append, h8, List.take_of_length_le (by omega), show 8 + s.n % 64 - 8 = s.n % 64 from by omega, List.take_append_of_le_length (by omega),
    List.drop_append, h8, List.drop_eq_nil_of_le (by omega), List.nil_append, show 8 + s.n % 64 + k - 8 = s.n % 64 + k from by omega, List.drop_append_of_le_length (by omega)]
  simp [B8, List.map_take, List.map_drop, List.append_assoc]
theorem ReadsX.drew {w : World} {g : Nat} {A : Option Addr} {n : Nat} {l : List UInt8} (h : ReadsX w g A n l) : ReadsX w.drew g A n l := ⟨h.len, h.at_⟩
theorem puts_part (s : St) (m : List UInt8) (k : Nat) (hb : s.blk.length = 64) (hk : k ≤ m.length) (hr : s.n % 64 + k < 64) : Sha.puts (counted (laid s m k) k) (m.drop k) = Sha.puts s m := by
  conv => rhs; rw [← List.take_append_drop k m, Sha.puts_append]
  have e : (m.take k).length = k := by rw [List.length_take]; omega
  rw [Sha.puts_within (m.take k) s hb (by rw [e]; exact hr), e]
  rfl
theorem puts_whole (s : St) (m : List UInt8) (k : Nat) (hb : s.blk.length = 64) (hk : k ≤ m.length) (h0 : 0 < k) (hr : s.n % 64 + k = 64) :
    Sha.puts ⟨Sha.comp1 s.h (laid s m k).blk, (laid s m k).blk, s.n + k⟩ (m.drop k) = Sha.puts s m := by
  conv => rhs; rw [← List.take_append_drop k m, Sha.puts_append]
  have e : (m.take k).length = k := by rw [List.length_take]; omega
  rw [Sha.puts_fill (m.take k) s hb (by rw [e]; exact hr) (by intro h; rw [h] at e; simp at e; omega), e]
  have e2 : (laid s m k).blk = s.blk.take (s.n % 64) ++ m.take k := by simp only [laid]; rw [List.drop_eq_nil_of_le (by omega), List.append_nil]
  rw [e2]
theorem stRow_at (s : St) (hb : s.blk.length = 64) : (stRow s)[72]? = some (.int .u64 (s.n : Int)) ∧ (stRow s)[73]? = some fn256 := by
  have h8 : (WL s.h.list).length = 8 := rfl
  have e2 : (B8 s.blk).length = 64 := by rw [B8_length]; exact hb
  constructor
  · simp only [stRow, hrow, stTail, List.getElem?_toArray]
    rw [List.getElem?_append_right (by omega), h8, List.getElem?_append_right (by omega), e2]
    rfl
  · simp only [stRow, hrow, stTail, List.getElem?_toArray]
    rw [List.getElem?_append_right (by omega), h8, List.getElem?_append_right (by omega), e2]
    rfl
theorem stRow_range (s : St) (w : World) (g : Nat) (t : TypeId) (hb : s.blk.length = 64) (h : Blk w g t (stRow s)) : w.rangeAt g 8 (B8 s.blk) := by
  have h8 : (WL s.h.list).length = 8 := rfl
  have e2 : (B8 s.blk).length = 64 := by rw [B8_length]; exact hb
  intro j v hj
  have hl : j < 64 := by rw [← e2]; exact (List.getElem?_eq_some_iff.1 hj).1
  rw [h.cell]
  simp only [stRow, hrow, stTail, List.getElem?_toArray]
  rw [List.getElem?_append_right (by omega), h8, List.getElem?_append_left (by omega), show 8 + j - 8 = j from by omega]
  exact hj
/-- the state with another chaining value -/
def hashed (s : St) (h' : Sha.V8) : St := ⟨h', s.blk, s.n⟩
theorem hashed_blk (s : St) (h' : Sha.V8) : (hashed s h').blk = s.blk := rfl
theorem hashed_n (s : St) (h' : Sha.V8) : (hashed s h').n = s.n := rfl
theorem hashed_length (s : St) (h' : Sha.V8) (hb : s.blk.length = 64) : (hashed s h').blk.length = 64 := by rw [hashed_blk]; exact hb
theorem hrow_st (s : St) (h' : Sha.V8) : hrow h' (stTail s) = stRow (hashed s h') := by
  show hrow h' (stTail s) = hrow h' (stTail ⟨h', s.blk, s.n⟩)
  have e : stTail ⟨h', s.blk, s.n⟩ = stTail s := by unfold stTail; dsimp only
  rw [e]
theorem blk_hashed {w : World} {g : Nat} {t : TypeId} (s : St) (h' : Sha.V8) (h : Blk w g t (hrow h' (stTail s))) : Blk w g t (stRow (hashed s h')) := by rw [← hrow_st]; exact h
theorem hashed_range {w : World} {g : Nat} {t : TypeId} (s : St) (h' : Sha.V8) (hb : s.blk.length = 64) (h : Blk w g t (stRow (hashed s h'))) : w.rangeAt g 8 (B8 s.blk) := by
  have h2 := stRow_range (hashed s h') w g t (hashed_length s h' hb) h
  rw [hashed_blk] at h2
  exact h2
theorem hashed_cell {w : World} {g : Nat} {t : TypeId} (s : St) (h' : Sha.V8) (hb : s.blk.length = 64) (h : Blk w g t (stRow (hashed s h'))) : w.cell? ⟨g, 73, none⟩ = some (.func (.func 66) #[] #[]) := (h.cell 73).trans (stRow_at (hashed s h') (hashed_length s h' hb)).2
theorem round_st (g : Nat) (s : St) (hb : s.blk.length = 64) (w : World) (hg : Blk w g 75 (stRow s)) :
    Calls Try.prog 66 #[.pointer (some ⟨g, 0, none⟩), .agg (B8 s.blk).toArray] w fun e w' => e = .returned (.tuple #[]) ∧ Blk w' g 75 (stRow (hashed s (Sha.comp1 s.h s.blk))) ∧ w.grownBy w' (some g) :=
  (round_any g 75 s.h (stTail s) s.blk hb w hg).mono fun e w' h => ⟨h.1, blk_hashed s _ h.2.1, h.2.2⟩
theorem stRow_count (s : St) (k : Nat) (hb : s.blk.length = 64) : (stRow s).setIfInBounds 72 (.int .u64 ((s.n : Int) + (k : Int))) = stRow (counted s k) := by
  have h8 : (WL s.h.list).length = 8 := rfl
  have e2 : (B8 s.blk).length = 64 := by rw [B8_length]; exact hb
  simp only [stRow, hrow, stTail, counted, List.setIfInBounds_toArray]
  rw [List.set_append_right _ _ (by omega), h8, List.set_append_right _ _ (by omega), e2]
  simp
theorem puts_full (s : St) (m : List UInt8) (k : Nat) (hb : s.blk.length = 64) (hk : k ≤ m.length) (h0 : 0 < k) (hr : s.n % 64 + k = 64) :
    Sha.puts (hashed (counted (laid s m k) k) (Sha.comp1 (counted (laid s m k) k).h (counted (laid s m k) k).blk)) (m.drop k) = Sha.puts s m := by
  have e1 : (counted (laid s m k) k).h = s.h := rfl
  have e2 : (counted (laid s m k) k).blk = (laid s m k).blk := rfl
  have e3 : ∀ h', hashed (counted (laid s m k) k) h' = ⟨h', (laid s m k).blk, s.n + k⟩ := fun h' => rfl
  rw [e1, e2, e3]
  exact puts_whole s m k hb hk h0 hr
theorem ReadsX.none_left {w : World} {g : Nat} {A : Option Addr} {n : Nat} {l : List UInt8} (h : ReadsX w g A n l) (h0 : n = 0) (A' : Option Addr) : ReadsX w g A' n l := ⟨h.len, fun hn => by omega⟩
theorem ReadsX.past {w : World} {g : Nat} {ad : Addr} {n : Nat} {l : List UInt8} (h : ReadsX w g (some ad) n l) {k : Nat} (hk : k ≤ n) : ReadsX w g (some (ad.add k)) (n - k) (l.drop k) := by
  have h2 := h.cut (k := k) (cap := n + k + 1) hk (by omega)
  rw [if_neg (by omega)] at h2
  exact h2
end Go.Proofs.Ytjnakhgpenafdaa
/- digest: (*state).add. -/
namespace Go.Proofs.Ytjnakhgpenafdaa
open Go.RowKit
open Sha (W St)
set_option linter.unusedVariables false
set_option linter.unusedSimpArgs false

set_option maxRecDepth 100000 in
set_option maxHeartbeats 4000000 in
theorem add_any (g : Nat) (s : St) (A : Option Addr) (n c : Nat) (l : List UInt8) (w : World) (hb : s.blk.length = 64) (hg : Blk w g 75 (stRow s)) (hr : ReadsX w g A n l) (hc : n ≤ c) (hs : s.n + l.length ≤ 1152921504606846976) (hn : n ≤ 140737488355328) :
    Calls Try.prog 56 #[.pointer (some ⟨g, 0, none⟩), .slice A n c] w fun e w' => e = .returned (.tuple #[]) ∧ Blk w' g 75 (stRow (Sha.puts s l)) ∧ w.grownBy w' (some g) := by
  have HS := Lib.hid (And.intro hb (And.intro hg hr))
  clear hb hg hr
  go_enter Try.func56, Try.ntmps56
  go_wp2_with fail
  go_loopw [1] (fun v wr => ∃ (s1 : St) (A1 : Option Addr) (n1 c1 : Nat) (m : List UInt8), v = .slice A1 n1 c1 ∧ s1.blk.length = 64 ∧ Blk wr g 75 (stRow s1) ∧ ReadsX wr g A1 n1 m ∧ n1 ≤ c1 ∧ n1 ≤ n ∧ s1.n + m.length ≤ 1152921504606846976 ∧ Hid (Sha.puts s1 m = Sha.puts s l) ∧ w.grownBy wr (some g))
    (fun v _ => match v with | .slice _ k _ => k | _ => 0)
  case atStart => exact ⟨s, A, n, c, l, rfl, HS.out.1, HS.out.2.1, HS.out.2.2, hc, Nat.le_refl _, hs, Lib.hid rfl, World.grownBy.refl w _⟩
  case round =>
    clear HS
    obtain ⟨s1, A1, n1, c1, m, rfl, hb1, hg1, hr1, hc1, hn1, hs1, hp1, hgr1⟩ := hrel
    have hlen := hr1.len
    by_cases h0 : 0 < n1
    · obtain ⟨r, hr⟩ : ∃ r, r = s1.n % 64 := ⟨_, rfl⟩
      obtain ⟨k, hk⟩ : ∃ k, k = min n1 (64 - r) := ⟨_, rfl⟩
      have hr64 : r < 64 := by omega
      have hk1 : 0 < k := by omega
      have hk2 : k ≤ n1 := by omega
      have hk3 : r + k ≤ 64 := by omega
      obtain ⟨ad, rfl, had1, had2, had3⟩ := hr1.at_ h0
      have kn : wr.drew.cell? ⟨g, 72, none⟩ = some (.int .u64 (s1.n : Int)) := (hg1.drew.cell 72).trans (stRow_at s1 hb1).1
      have hs2 : (s1.n : Int) ≤ 1152921504606846976 := by omega
      have hrr : (s1.n : Int).tmod 64 = (r : Int) := by rw [Int.tmod_eq_emod_of_nonneg (by omega)]; omega
      have H1 := Lib.hid (And.intro hr (And.intro hk (And.intro hlen (And.intro hb1 (And.intro hg1.drew (And.intro hr1.drew (And.intro (only_drew hgr1) (show ∀ j u, (B8 m)[j]? = some u → wr.drew.cell? (ad.add j) = some u from had3))))))))
      have hrI : (0 : Int) ≤ (r : Int) := by omega
      have hrI2 : (r : Int) ≤ 64 := by omega
      have hrI3 : (r : Int) < 64 := by omega
      have hrI4 : ¬ ((r : Int) = 64) := by omega
      clear hr hk hlen hb1 hg1 hr1 hgr1 had1 had2 had3
      go_wp2
      refine wp_region_still_tail 10 (by kernel_rfl) (by kernel_rfl) ?_
      change wpStill _ _ wr.drew (fun a' => wpList _ _ _ _ a' wr.drew) _ _
      simp only [List.take_succ_cons, List.take_zero, List.drop_succ_cons, List.drop_zero]
      generalize wr.drew = w6 at *
      repeat still_step
      refine wpStill_nil ?_
      rw [if_neg (show ¬ (64 = r) by omega)]
      obtain ⟨hr, hk, hlen, hb1, hg1, hr1, hgr1, hsrc⟩ := H1.out
      have hsz := stRow_size s1 hb1
      have hcell : ∀ j u, (B8 m)[j]? = some u → w6.cell? (ad.add j) = some u := hsrc
      have HC := Lib.hid hcell
      have HG := Lib.hid hg1
      have HK := Lib.hid (show k = min n1 (64 - r) from hk)
      have HL := Lib.hid hlen
      have HF := Lib.hid (show 8 + r + k ≤ (stRow s1).size by rw [hsz]; omega)
      have hkm : k ≤ m.length := by omega
      have HLd := Lib.hid (show ((stRow s1).toList.take (8 + r) ++ (B8 (m.take k) ++ (stRow s1).toList.drop (8 + r + (B8 (m.take k)).length))).toArray = stRow (laid s1 m k) by rw [hr]; exact stRow_laid s1 m k hb1 hkm (by omega))
      have hb2 := laid_length s1 m k hb1 hkm (by omega)
      have H2 := Lib.hid (And.intro hr (And.intro hb1 (And.intro hr1 (And.intro hgr1 (And.intro hkm hb2)))))
      have kI1 : (0 : Int) ≤ (k : Int) := by omega
      have kI2 : (k : Int) ≤ (n1 : Int) := by omega
      have kI3 : (n1 : Int) ≤ (c1 : Int) := by omega
      have kI4 : (k : Int) ≤ 64 := by omega
      by_cases hfull : r + k = 64
      · have hmod : (((s1.n : Int) + (k : Int)) % 64 == 0) = true := by rw [beq_iff_eq]; omega
        have HFu := Lib.hid hfull
        clear hr hk hlen hb1 hg1 hr1 hgr1 hsrc hcell hsz kn hrr hrI hrI2 hrI3 hrI4 H1 hkm hb2 hfull
        go_wp2_with (refine wpList_copy_bytes (o := ⟨some 18, _, _, _, _, _⟩) (by rfl) (.tmp 16) (.tmp 17) (by rfl) g (8 + r) (64 - r) (64 - r) ad n1 c1 (by rfl) (by rfl) (stRow s1) 75 HG.out m k HK.out HL.out HC.out HF.out ?_; intro w7 hg7 hgr7 hz7; rw [HLd.out] at hg7; have kn7 : w7.cell? ⟨g, 72, none⟩ = some (.int .u64 (s1.n : Int)) := ((hg7.cell 72).trans (stRow_at (laid s1 m k) H2.out.2.2.2.2.2).1); have kf7 := hg7.frozen 72; have HG7 := Lib.hid hg7; clear hg7)
        all_goals
          have hg8 := HG7.out.set_ 72 (.int .u64 ((s1.n : Int) + (k : Int)))
          have hgr8 : w6.grownBy (w7.setCell ⟨g, 72, none⟩ (.int .u64 ((s1.n : Int) + (k : Int)))) (some g) := only_setCell (p := ⟨g, 72, none⟩) hgr7 (.inl rfl) _
          rw [show ((s1.n : Int) + (k : Int)) = (((laid s1 m k).n : Int) + (k : Int)) from rfl, stRow_count (laid s1 m k) k H2.out.2.2.2.2.2] at hg8
          obtain ⟨s2, hs2'⟩ : ∃ s2, s2 = counted (laid s1 m k) k := ⟨_, rfl⟩
          rw [← hs2'] at hg8
          have hb3 : s2.blk.length = 64 := by rw [hs2']; exact H2.out.2.2.2.2.2
          have hS := Lib.hid hs2'
          clear hs2' kn7 kf7 HG7
          rw [show ((laid s1 m k).n : Int) = (s1.n : Int) from rfl] at hg8
          generalize w7.setCell ⟨g, 72, none⟩ (.int .u64 ((s1.n : Int) + (k : Int))) = w8 at *
          have hrange := stRow_range s2 _ g _ hb3 hg8
          have hcell : w8.cell? ⟨g, 73, none⟩ = some (.func (.func 66) #[] #[]) := (hg8.cell 73).trans (stRow_at s2 hb3).2
          have hlen8 : (B8 s2.blk).length = 64 := by rw [B8_length]; exact hb3
          have h8u := Try.underlying72
          have h8i : (Try.prog.info? 72).map (·.size) = some (B8 s2.blk).length := by rw [hlen8]; kernel_rfl
          have h8o := B8_one s2.blk
          have hg8d := hg8.drew
          go_region_held3 (fun w' => w'.rangeAt g 8 (B8 s2.blk) ∧ w'.cell? ⟨g, 73, none⟩ = some (.func (.func 66) #[] #[]))
            (first | exact ⟨hrange, hcell⟩ | exact ⟨hrange9, hcell9⟩)
            (first | (go_at_call 66; ((with_reducible refine (round_st g s2 hb3 _ hg8d).mono ?_); rintro e w9 ⟨rfl, hg9, hgr9⟩; have hrange9 := hashed_range s2 _ hb3 hg9; have hcell9 := hashed_cell s2 _ hb3 hg9)))
          go_wp2
          go_roundw
          case rel =>
            obtain ⟨hr, hb1, hr1, hgr1, hkm, hb2⟩ := H2.out
            have hgr9' : w6.grownBy w9 (some g) := World.grownBy.trans (only_drew hgr8) hgr9
            have hp9 : Sha.puts (hashed s2 (Sha.comp1 s2.h s2.blk)) (m.drop k) = Sha.puts s l := by
              rw [hS.out]; exact (puts_full s1 m k hb1 hkm hk1 (by rw [← hr]; exact HFu.out)).trans hp1.out
            have hn9 : (hashed s2 (Sha.comp1 s2.h s2.blk)).n + (m.drop k).length ≤ 1152921504606846976 := by
              rw [hashed_n, hS.out]; have := HL.out; simp only [counted, laid, List.length_drop]; omega
            first
              | exact ⟨hashed s2 (Sha.comp1 s2.h s2.blk), _, n1 - k, _, m.drop k, rfl, hashed_length s2 _ hb3, hg9, (hr1.past hk2).keep hgr9', by omega, by omega, hn9, Lib.hid hp9, World.grownBy.trans hgr1 hgr9'⟩
              | exact ⟨hashed s2 (Sha.comp1 s2.h s2.blk), _, n1 - k, _, m.drop k, rfl, hashed_length s2 _ hb3, hg9, ((hr1.past hk2).keep hgr9').none_left (by omega) _, by omega, by omega, hn9, Lib.hid hp9, World.grownBy.trans hgr1 hgr9'⟩
          case measure => simp; omega
      · have hmod : 0 < ((s1.n : Int) + (k : Int)) % 64 := by omega
        have HFu := Lib.hid hfull
        clear hr hk hlen hb1 hg1 hr1 hgr1 hsrc hcell hsz kn hrr hrI hrI2 hrI3 hrI4 H1 hkm hb2 hfull
        go_wp2_with (refine wpList_copy_bytes (o := ⟨some 18, _, _, _, _, _⟩) (by rfl) (.tmp 16) (.tmp 17) (by rfl) g (8 + r) (64 - r) (64 - r) ad n1 c1 (by rfl) (by rfl) (stRow s1) 75 HG.out m k HK.out HL.out HC.out HF.out ?_; intro w7 hg7 hgr7 hz7; rw [HLd.out] at hg7; have kn7 : w7.cell? ⟨g, 72, none⟩ = some (.int .u64 (s1.n : Int)) := ((hg7.cell 72).trans (stRow_at (laid s1 m k) H2.out.2.2.2.2.2).1); have kf7 := hg7.frozen 72; have HG7 := Lib.hid hg7; clear hg7)
        go_roundw
        case rel =>
          obtain ⟨hr, hb1, hr1, hgr1, hkm, hb2⟩ := H2.out
          have hset := HG7.out.set_ 72 (.int .u64 ((s1.n : Int) + (k : Int)))
          rw [show ((s1.n : Int) + (k : Int)) = (((laid s1 m k).n : Int) + (k : Int)) from rfl, stRow_count (laid s1 m k) k hb2] at hset
          have hg8 : w6.grownBy (w7.setCell ⟨g, 72, none⟩ (.int .u64 ((s1.n : Int) + (k : Int)))) (some g) := only_setCell (p := ⟨g, 72, none⟩) hgr7 (.inl rfl) _
          refine ⟨counted (laid s1 m k) k, _, n1 - k, c1 - k, m.drop k, rfl, hb2, hset, ?_, by omega, by omega, ?_, ?_, World.grownBy.trans hgr1 hg8⟩
          · have h1 := (hr1.cut (k := k) (cap := c1) (by omega) (by omega)).keep hg8
            exact h1
          · have := HL.out; simp only [counted, laid, List.length_drop]; omega
          · have HFu' := HFu.out
            exact Lib.hid ((puts_part s1 m k hb1 hkm (by omega)).trans hp1.out)
        case measure => simp; omega
    · obtain rfl : n1 = 0 := by omega
      have hm0 : m = [] := List.eq_nil_of_length_eq_zero hlen
      subst hm0
      have HE := Lib.hid (And.intro hp1.out (And.intro hg1 hgr1))
      clear hp1 hg1 hgr1 hr1 hlen h0
      go_wp2_with fail
      go_end0
      obtain ⟨hp, hg, hgr⟩ := HE.out
      refine ⟨rfl, ?_, hgr⟩
      rw [← hp]
      exact hg
end Go.Proofs.Ytjnakhgpenafdaa
/- digest: (state).sum, Sha256. -/
namespace Go.Proofs.Ytjnakhgpenafdaa
open Go.RowKit
open Sha (W St)
set_option linter.unusedVariables false
set_option linter.unusedSimpArgs false

/-- one byte in a block of its own -/
theorem readsX_one {w : World} {g : Nat} (hg : g < w.heap.size) (b : UInt8) (z : Int) (hz : z = (b.toNat : Int)) : ReadsX (w.alloc (.cells #[.int .u8 z] 5)) g (some ⟨w.heap.size, 0, none⟩) 1 [b] := by
  subst hz
  refine ⟨rfl, fun _ => ⟨_, rfl, by simp; omega, by simp, ?_⟩⟩
  intro j u hj
  match j, hj with
  | 0, hj => simp [B8] at hj; subst hj; simp [Addr.add]
/-- the state's memory in sum -/
structure SMem (w : World) (wr : World) (s : St) : Prop where
  blk : Blk wr w.heap.size 75 (stRow s)
  len : s.blk.length = 64
  below : Below w.heap.size w wr
theorem SMem.step {w wr w' : World} {s s' : St} (h : SMem w wr s) (hb : Blk w' w.heap.size 75 (stRow s')) (hl : s'.blk.length = 64) (hg : wr.grownBy w' (some w.heap.size)) : SMem w w' s' :=
  ⟨hb, hl, h.below.grown hg h.below.size (by intro k hk; injection hk with hk; omega)⟩
theorem SMem.alloc {w wr : World} {s : St} (h : SMem w wr s) (o : Obj) : SMem w (wr.alloc o) s := ⟨h.blk.alloc o, h.len, h.below.alloc h.below.size o⟩
theorem SMem.count {w wr : World} {s : St} (h : SMem w wr s) : wr.cell? ⟨w.heap.size, 72, none⟩ = some (.int .u64 (s.n : Int)) := (h.blk.cell 72).trans (stRow_at s h.len).1

/-- how many bytes the state in block g has seen -/
def seen (w : World) (g : Nat) : Nat := match w.cell? ⟨g, 72, none⟩ with | some (.int _ x) => x.toNat | _ => 0
theorem seen_of {w : World} {g n : Nat} (h : w.cell? ⟨g, 72, none⟩ = some (.int .u64 (n : Int))) : seen w g = n := by unfold seen; rw [h]; simp
theorem SMem.seen {w wr : World} {s : St} (h : SMem w wr s) : seen wr w.heap.size = s.n := seen_of h.count
/-- the state behind so many zeros -/
def zst (s : St) (j : Nat) : St := Sha.puts s ([0x80] ++ List.replicate j 0)
theorem zst_n (s : St) (j : Nat) : (zst s j).n = s.n + 1 + j := by simp [zst, Sha.puts_n]; omega
theorem zst_len (s : St) (j : Nat) (h : s.blk.length = 64) : (zst s j).blk.length = 64 := by rw [zst, Sha.puts_blk]; exact h
theorem zst_succ (s : St) (j : Nat) : Sha.puts (zst s j) [0] = zst s (j + 1) := by
  rw [zst, zst, ← Sha.puts_append, List.append_assoc, ← List.replicate_succ']
/-- and so many bytes of the length -/
def lst (s : St) (k : Nat) : St := Sha.puts (zst s (Sha.zs s.n)) ((Sha.be8 (s.n * 8)).take k)
theorem lst_n (s : St) (k : Nat) (hk : k ≤ 8) : (lst s k).n = s.n + 1 + Sha.zs s.n + k := by
  rw [lst, Sha.puts_n, zst_n, List.length_take]
  have : (Sha.be8 (s.n * 8)).length = 8 := rfl
  omega
theorem lst_len (s : St) (k : Nat) (h : s.blk.length = 64) : (lst s k).blk.length = 64 := by rw [lst, Sha.puts_blk]; exact zst_len s _ h
theorem be8_get (n k : Nat) (hk : k < 8) : (Sha.be8 n).take (k + 1) = (Sha.be8 n).take k ++ [Sha.byte (n / 2 ^ (56 - 8 * k))] := by
  match k, hk with
  | 0, _ => simp [Sha.be8, Nat.shiftRight_eq_div_pow]
  | 1, _ => simp [Sha.be8, Nat.shiftRight_eq_div_pow]
  | 2, _ => simp [Sha.be8, Nat.shiftRight_eq_div_pow]
  | 3, _ => simp [Sha.be8, Nat.shiftRight_eq_div_pow]
  | 4, _ => simp [Sha.be8, Nat.shiftRight_eq_div_pow]
  | 5, _ => simp [Sha.be8, Nat.shiftRight_eq_div_pow]
  | 6, _ => simp [Sha.be8, Nat.shiftRight_eq_div_pow]
  | 7, _ => simp [Sha.be8]
theorem lst_succ (s : St) (k : Nat) (hk : k < 8) : Sha.puts (lst s k) [Sha.byte (s.n * 8 / 2 ^ (56 - 8 * k))] = lst s (k + 1) := by
  rw [lst, lst, ← Sha.puts_append, ← be8_get _ _ hk]
theorem lst_zero (s : St) : lst s 0 = zst s (Sha.zs s.n) := rfl
theorem lst_all (s : St) : lst s 8 = Sha.puts s ([0x80] ++ List.replicate (Sha.zs s.n) 0 ++ Sha.be8 (s.n * 8)) := by
  rw [lst, zst, ← Sha.puts_append]; rfl
theorem sbyte_div (m e : Nat) : (m : Int) / 2 ^ e % 256 = ((Sha.byte (m / 2 ^ e)).toNat : Int) := Cn.byte_div m e
theorem zs_lt (n : Nat) : Sha.zs n < 64 := by unfold Sha.zs; omega

theorem wb_z (X : W) : (X.toNat : Int) / (16777216 : Int) = ((Sha.byte (X >>> 24).toNat).toNat : Int) ∧ (X.toNat : Int) / (65536 : Int) % (256 : Int) = ((Sha.byte (X >>> 16).toNat).toNat : Int) ∧
    (X.toNat : Int) / (256 : Int) % (256 : Int) = ((Sha.byte (X >>> 8).toNat).toNat : Int) ∧ (X.toNat : Int) % (256 : Int) = ((Sha.byte X.toNat).toNat : Int) := by
  have h : ∀ n : Nat, ((Sha.byte n).toNat : Int) = (n : Int) % 256 := Cn.byte_toNat
  refine ⟨?_, ?_, ?_, (h _).symm⟩
  · rw [h, ← u32_shr]; have := X.isLt; rw [Int.emod_eq_of_lt (by omega) (by omega)]; rfl
  · rw [h, ← u32_shr]; rfl
  · rw [h, ← u32_shr]; rfl
theorem flat_wb (l : List W) : (l.flatMap Sha.wb).length = 4 * l.length := by
  induction l with
  | nil => rfl
  | cons x l ih => rw [List.flatMap_cons, List.length_append, ih, Sha.wb_length, List.length_cons]; omega
theorem flat_take (l : List W) (k : Nat) (hk : k ≤ 8) : ((l.take k).flatMap Sha.wb).length ≤ 32 := by
  rw [flat_wb, List.length_take]; omega
theorem reads_four (w : World) (X : W) : Reads (w.alloc (.cells #[.int .u8 ((X.toNat : Int) / 16777216), .int .u8 ((X.toNat : Int) / 65536 % 256), .int .u8 ((X.toNat : Int) / 256 % 256), .int .u8 ((X.toNat : Int) % 256)] 5)) (w.heap.size + 1) 1
    (some ⟨w.heap.size, 0, none⟩) 4 (B8 (Sha.wb X)) := by
  obtain ⟨e0, e1, e2, e3⟩ := wb_z X
  rw [e0, e1, e2, e3]
  refine ⟨rfl, fun _ => ⟨_, rfl, by simp, ?_⟩⟩
  intro j u hj
  rw [Addr.add_mid, Nat.zero_add]
  refine (cell_of_row _ w.heap.size j _ _ _ (heap_alloc_new w _)).trans ?_
  simpa [B8, Sha.wb] using hj
theorem wb_take (l : List W) (k : Nat) (hk : k < l.length) : (l.take (k + 1)).flatMap Sha.wb = (l.take k).flatMap Sha.wb ++ Sha.wb (l.getD k 0) := by
  rw [List.take_succ_eq_append_getElem hk, List.flatMap_append, List.getD_eq_getElem?_getD, List.getElem?_eq_getElem hk]
  simp
theorem stRow_word (s : St) (j : Nat) (hj : j < 8) : (stRow s)[j]? = some (.int .u32 ((s.h.list.getD j 0).toNat : Int)) := hrow_at s.h.list (stTail s) j hj

set_option maxRecDepth 100000 in
set_option maxHeartbeats 4000000 in
theorem sum_any (s : St) (w : World) (hb : s.blk.length = 64) (hs : s.n ≤ 140737488355328) :
    Calls Try.prog 57 #[.agg (stRow s), .int .i64 8] w (RetB w ((Sha.puts s ([0x80] ++ List.replicate (Sha.zs s.n) 0 ++ Sha.be8 (s.n * 8))).h.list.flatMap Sha.wb)) := by
  obtain ⟨R, hR⟩ : ∃ R, R = (Sha.puts s ([0x80] ++ List.replicate (Sha.zs s.n) 0 ++ Sha.be8 (s.n * 8))).h.list.flatMap Sha.wb := ⟨_, rfl⟩
  rw [← hR]
  have HR := Lib.hid hR
  clear hR
  have hM : SMem w (w.alloc (.cells (stRow s) 75)) s := ⟨Blk.new w _ _, hb, (Below.refl _ _).alloc (Nat.le_refl _) _⟩
  obtain ⟨sr, hsr⟩ : ∃ sr, sr = stRow s := ⟨_, rfl⟩
  rw [← hsr] at hM ⊢
  have kn := hM.count
  have HM := Lib.hid hM
  have hsI : (s.n : Int) ≤ 140737488355328 := by omega
  have hs0 : (0 : Int) ≤ (s.n : Int) := by omega
  clear hM hsr hb
  go_enter Try.func57, Try.ntmps57
  go_wp2_with fail
  have hx := readsX_one (w := w.alloc (.cells sr 75)) (g := w.heap.size) (by simp) 0x80 128 rfl
  have hsz : (w.alloc (.cells sr 75)).heap.size = w.heap.size + 1 := by simp
  rw [hsz] at hx
  refine (add_any w.heap.size s _ 1 1 [0x80] _ HM.out.len (HM.out.alloc _).blk hx (Nat.le_refl _) (by simp; omega) (by omega)).mono ?_
  rintro e w1 ⟨rfl, hb1, hg1⟩
  have hM1 := (HM.out.alloc (.cells #[.int .u8 128] 5)).step hb1 (by rw [Sha.puts_blk]; exact HM.out.len) hg1
  clear hb1 hg1 hx hsz kn
  generalize w.alloc (.cells sr 75) = w0 at *
  have HN := Lib.hid HM.out.len
  clear HM
  go_wp2_with fail
  go_loopw [] (fun wr => ∃ j : Nat, j ≤ Sha.zs s.n ∧ SMem w wr (zst s j)) (fun wr => Sha.zs s.n + s.n + 1 - seen wr w.heap.size)
  case atStart => exact ⟨0, Nat.zero_le _, hM1⟩
  case round =>
    clear hM1
    obtain ⟨j, hj, hM⟩ := hrel
    obtain ⟨N, hN⟩ : ∃ N, N = (zst s j).n := ⟨_, rfl⟩
    have kn := hM.count
    rw [← hN] at kn
    rw [zst_n] at hN
    have hzs := zs_lt s.n
    have hNI : (N : Int) ≤ 140737488355500 := by omega
    have hN0 : (0 : Int) ≤ (N : Int) := by omega
    by_cases h56 : N % 64 = 56
    · have hb : ((N : Int) % 64 != 56) = false := by rw [bne_eq_false_iff_eq]; omega
      have hjz : j = Sha.zs s.n := by unfold Sha.zs at *; omega
      rw [hjz, ← lst_zero] at hM
      have HM := Lib.hid hM
      have HN2 := Lib.hid hN
      clear hM hN hjz h56 hj hzs
      go_wp2_with fail
      obtain ⟨M, hMM⟩ : ∃ M, M = s.n * 8 := ⟨_, rfl⟩
      rw [show (s.n : Int) * 8 = (M : Int) from by omega]
      have hMI : (M : Int) ≤ 1125899906842624 := by omega
      have HMM := Lib.hid hMM
      clear hMM kn hb
      go_loopw [7] (fun i wr => ∃ k : Nat, k ≤ 8 ∧ i = .int .i64 (56 - 8 * (k : Int)) ∧ SMem w wr (lst s k)) (fun i _ => (intOf i + 8).toNat)
      case atStart => exact ⟨0, by omega, rfl, HM.out⟩
      case round =>
        clear HM
        obtain ⟨k, hk, rfl, hM⟩ := hrel
        have HM := Lib.hid hM
        clear hM
        by_cases h8 : k < 8
        · go_wp2_with fail
          have hx := readsX_one (w := wr) (g := w.heap.size) HM.out.blk.lt (Sha.byte (M / 2 ^ (56 - 8 * k))) _ (sbyte_div M (56 - 8 * k))
          refine (add_any w.heap.size (lst s k) _ 1 1 [Sha.byte (M / 2 ^ (56 - 8 * k))] _ HM.out.len (HM.out.alloc _).blk hx (Nat.le_refl _) (by rw [lst_n _ _ (by omega)]; have := zs_lt s.n; simp; omega) (by omega)).mono ?_
          rintro e w2 ⟨rfl, hb2, hg2⟩
          have hM2 := (HM.out.alloc (.cells #[.int .u8 ((M : Int) / 2 ^ (56 - 8 * k) % 256)] 5)).step hb2 (by rw [Sha.puts_blk]; exact HM.out.len) hg2
          rw [HMM.out, lst_succ s k h8] at hM2
          have HM2 := Lib.hid hM2
          clear hb2 hg2 hx hM2
          go_wp2_with fail
          go_roundw
          case rel => exact ⟨k + 1, by omega, by go_num, HM2.out⟩
          case measure => simp [intOf]; omega
        · obtain rfl : k = 8 := by omega
          obtain ⟨s8, hs8⟩ : ∃ s8, s8 = lst s 8 := ⟨_, rfl⟩
          rw [← hs8] at HM
          rw [lst_all] at hs8
          have HS := Lib.hid hs8
          clear hs8
          go_wp2_with fail
          go_loopw [6, 36] (fun v i wr => ∃ (k j : Nat) (A : Option Addr) (c : Nat), k ≤ 8 ∧ i = .int .i64 (k : Int) ∧ v = .slice A j c ∧ wr.ownsRow w.heap.size 5 1 (.slice A j c) j (B8 ((s8.h.list.take k).flatMap Sha.wb)) ∧ SMem w wr s8) (fun _ i _ => (8 - intOf i).toNat)
          case atStart => exact ⟨0, 0, none, 0, by omega, rfl, rfl, World.ownsRow_nil _ _ _ _, HM.out⟩
          case round =>
            clear HM
            obtain ⟨k, j, A, c, hk, rfl, rfl, hown, hM⟩ := hrel
            by_cases h8 : k < 8
            · obtain ⟨X, hX⟩ : ∃ X : W, X = s8.h.list.getD k 0 := ⟨_, rfl⟩
              have kx : wr.cell? ⟨w.heap.size, k, none⟩ = some (.int .u32 (X.toNat : Int)) := (hM.blk.cell k).trans (by rw [stRow_word s8 k h8, hX])
              have HT := Lib.hid (show (s8.h.list.take (k + 1)).flatMap Sha.wb = (s8.h.list.take k).flatMap Sha.wb ++ Sha.wb X by rw [wb_take _ _ (by exact h8), hX])
              have hlen := own_bytes_length hown
              have hj : j ≤ 32 := by
                rw [← hlen]; exact flat_take _ _ hk
              have HO := Lib.hid (And.intro hown (And.intro hM hlen))
              have hbase : w.heap.size ≤ wr.heap.size := hM.below.size
              have k0 : (0 : Int) ≤ (k : Int) := by omega
              clear hown hM hlen hX
              go_wp2_with (first
                | (at_builtin; refine wpList_append_bytes (w0 := w) w.heap.size (by rfl) (.tmp 40) (.tmp 52) (by rfl) _ j ((s8.h.list.take k).flatMap Sha.wb) (Sha.wb X) (by rfl) (HO.out.1.alloc _) (some ⟨wr.heap.size, 0, none⟩) 4 4 (by rfl) (wr.heap.size + 1) (reads_four wr X) (by rw [HO.out.2.2, Sha.wb_length]; omega) (by simp; omega) (HO.out.2.1.below.alloc hbase _) ?_; intro A1 n1 c1 w1 hown1 hb1 hg1))
              go_roundw
              case rel =>
                have hne := own_blk_ne (HO.out.1.alloc (.cells #[.int .u8 ((X.toNat : Int) / 16777216), .int .u8 ((X.toNat : Int) / 65536 % 256), .int .u8 ((X.toNat : Int) / 256 % 256), .int .u8 ((X.toNat : Int) % 256)] 5)) (HO.out.2.1.alloc _).blk (by decide)
                refine ⟨_, _, _, _, _, _, _, _, _, _, _, _, _, _, _, _, _, _, _, _, _, ?_, rfl⟩
                exact ⟨k + 1, n1, A1, c1, by omega, by go_num, rfl, by rw [HT.out]; exact hown1, (HO.out.2.1.alloc _).blk.grown hg1 (fun e => hne e.symm), HO.out.2.1.len, hb1⟩
              case measure => simp [intOf]; omega
            · obtain rfl : k = 8 := by omega
              have hR2 : (s8.h.list.take 8).flatMap Sha.wb = R := by rw [HR.out, HS.out]; rfl
              rw [hR2] at hown
              have hB := hM.below
              have HO := Lib.hid (And.intro hown hB)
              clear hown hM hB hR2
              go_wp2_with fail
              go_ret
              exact RetB.mk HO.out.1 HO.out.2
    · have hb : ((N : Int) % 64 != 56) = true := by rw [bne_iff_ne]; omega
      have hj2 : j < Sha.zs s.n := by
        rcases Nat.lt_or_ge j (Sha.zs s.n) with h | h
        · exact h
        · exfalso; unfold Sha.zs at *; omega
      have HM := Lib.hid hM
      have HN2 := Lib.hid hN
      have HJ := Lib.hid (And.intro hj2 hzs)
      clear hM hN hj2 hzs hj h56
      go_wp2_with fail
      have hx := readsX_one (w := wr) (g := w.heap.size) HM.out.blk.lt 0 0 rfl
      refine (add_any w.heap.size (zst s j) _ 1 1 [0] _ HM.out.len (HM.out.alloc _).blk hx (Nat.le_refl _) (by have := HN2.out; have := HJ.out.2; rw [zst_n]; simp; omega) (by omega)).mono ?_
      rintro e w2 ⟨rfl, hb2, hg2⟩
      have hM2 := (HM.out.alloc (.cells #[.int .u8 0] 5)).step hb2 (by rw [Sha.puts_blk]; exact HM.out.len) hg2
      rw [zst_succ] at hM2
      have HM2 := Lib.hid hM2
      clear hb2 hg2 hx hM2
      go_wp2_with fail
      go_roundw
      case rel => exact ⟨j + 1, HJ.out.1, HM2.out⟩
      case measure =>
        have e1 := HM.out.seen
        have e2 := HM2.out.seen
        have e3 := HJ.out.1
        rw [zst_n] at e1 e2
        rw [e1, e2]
        omega
end Go.Proofs.Ytjnakhgpenafdaa
/- digest.Sha256; Same twice. -/
namespace Go.Proofs.Ytjnakhgpenafdaa
open Go.RowKit
open Sha (W St)
set_option linter.unusedVariables false
set_option linter.unusedSimpArgs false
theorem start_n : start.n = 0 := rfl
theorem start_len : start.blk.length = 64 := rfl
theorem reads_far {w : World} {B g : Nat} {A : Option Addr} {n : Nat} {l : List UInt8} (h : Reads w B 1 A n (B8 l)) (hB : B ≤ g) (hg : g ≤ w.heap.size) : ReadsX w g A n l := by
  refine ⟨h.bytes_length, fun hn => ?_⟩
  obtain ⟨ad, e, hb, hc⟩ := h.2 hn
  exact ⟨ad, e, by omega, by omega, hc⟩
theorem sha1_fold (l : List UInt8) : Sha.puts (Sha.puts start l) ([0x80] ++ List.replicate (Sha.zs l.length) 0 ++ Sha.be8 (l.length * 8)) = Sha.sha1st l := by
  rw [← Sha.puts_append]; rfl
theorem put_n (l : List UInt8) : (Sha.puts start l).n = l.length := by rw [Sha.puts_n, start_n, Nat.zero_add]

set_option maxRecDepth 100000 in
set_option maxHeartbeats 4000000 in
theorem dsha_any (A : Option Addr) (n c : Nat) (l : List UInt8) (w : World) (hr : Reads w w.heap.size 1 A n (B8 l)) (hc : n ≤ c) (hn : n ≤ 140737488355328) :
    Calls Try.prog 35 #[.slice A n c] w (RetB w (Sha.sha l)) := by
  have hl := hr.bytes_length
  obtain ⟨R, hR⟩ : ∃ R, R = Sha.sha l := ⟨_, rfl⟩
  rw [← hR]
  have HR := Lib.hid hR
  have HL := Lib.hid (And.intro hr hl)
  clear hR hr hl
  obtain ⟨sr, hsr⟩ : ∃ sr, sr = stRow start := ⟨_, rfl⟩
  have HS := Lib.hid hsr
  clear hsr
  obtain ⟨p, hp⟩ : ∃ p, p = Sha.puts start l := ⟨_, rfl⟩
  have hpn : p.n = n := by rw [hp, put_n, HL.out.2]
  have hpb : p.blk.length = 64 := by rw [hp, Sha.puts_blk]; rfl
  have HP := Lib.hid (And.intro hp (And.intro hpn hpb))
  clear hp hpn hpb
  obtain ⟨pr, hpr⟩ : ∃ pr, pr = stRow p := ⟨_, rfl⟩
  have HPR := Lib.hid hpr
  clear hpr
  go_enter Try.func35, Try.ntmps35
  go_wp2_with fail
  refine (start_any w).mono ?_
  rintro e w1 ⟨rfl, hb1⟩
  rw [← HS.out]
  have HB1 := Lib.hid hb1
  clear hb1
  go_wp2_with (first
    | (refine wpList_alloc_blk (o := ⟨some 3, _, _, _, _, _⟩) (by rfl) 75 (by rfl) _ w1.heap.size (by rfl) alloc_st ?_)
    | (refine wpList_store_blk (o := ⟨none, _, _, _, _, _⟩) (by rfl) 75 (.tmp 3) (.tmp 4) (by rfl) w1.heap.size 75 _ sr (by rfl) (by rfl) (Blk.new w1 75 zeroSt) (by rw [HS.out]; rfl) (by rw [HS.out]; exact size_st start rfl) (by rw [HS.out]; exact stRow_one start) ?_; intro w2 hK2 hg2 hz2)
    | (go_at_call 56; rw [HS.out] at hK2; refine (add_any w1.heap.size start _ n c l _ start_len hK2 ((reads_far ((HL.out.1.up HB1.out).alloc (Nat.le_refl _) _) (Nat.le_refl _) (by simp)).keep hg2) hc (by rw [start_n, HL.out.2]; omega) hn).mono ?_; rintro e w3 ⟨rfl, hK3, hg3⟩; rw [← HP.out.1, ← HPR.out] at hK3)
    | (refine wpList_load_row (o := ⟨some 7, _, _, _, _, _⟩) (by rfl) 75 (.tmp 3) (by rfl) w1.heap.size (by rfl) 75 pr (0, 0) _ hK3 Try.underlying75 rfl (by rw [HPR.out]; exact size_st _ HP.out.2.2) ?_)
    | (go_at_call 57; rw [HPR.out]; refine (sum_any p _ HP.out.2.2 (by rw [HP.out.2.1]; exact hn)).mono ?_; rintro e w4 ⟨A4, n4, c4, rfl, hO4⟩))
  go_ret
  have e4 : (Sha.puts p ([0x80] ++ List.replicate (Sha.zs p.n) 0 ++ Sha.be8 (p.n * 8))).h.list.flatMap Sha.wb = R := by
    rw [HR.out, ← Sha.sha_eq, HP.out.2.1, ← HL.out.2, HP.out.1, sha1_fold]; rfl
  rw [e4] at hO4
  have h3 : Below w1.heap.size w1 w3 := (((Below.refl _ _).alloc (Nat.le_refl _) _).grown hg2 (by simp) (by intro k hk; injection hk with hk; omega)).grown hg3 (by have := hg2.size; simp at this; omega) (by intro k hk; injection hk with hk; omega)
  exact RetB.of_call (below_then HB1.out h3) hO4
end Go.Proofs.Ytjnakhgpenafdaa
/- Same twice: the reference's and digest's. -/
namespace Go.Proofs.Ytjnakhgpenafdaa
open Go.RowKit
set_option linter.unusedVariables false
set_option linter.unusedSimpArgs false
theorem reads_cell {w : World} {B : Nat} {A : Option Addr} {n k : Nat} {l : List UInt8} (h : Reads w B 1 A n (B8 l)) (hk : k < n) : ∃ ad, A = some ad ∧ w.cell? (ad.add k) = some (.int .u8 ((l.getD k 0).toNat : Int)) := by
  obtain ⟨ad, e, hb, hc⟩ := h.2 (by omega)
  have hl := h.bytes_length
  refine ⟨ad, e, hc k _ ?_⟩
  rw [B8, List.getElem?_map, List.getElem?_eq_getElem (by omega), List.getD_eq_getElem?_getD, List.getElem?_eq_getElem (by omega)]
  rfl
theorem same_more {l l' : List UInt8} {k n : Nat} (h1 : l.length = n) (h2 : l'.length = n) (hk : k < n) (h : l.take k = l'.take k) (he : l.getD k 0 = l'.getD k 0) : l.take (k + 1) = l'.take (k + 1) := by
  rw [List.take_succ_eq_append_getElem (by omega), List.take_succ_eq_append_getElem (by omega), h]
  rw [List.getD_eq_getElem?_getD, List.getElem?_eq_getElem (by omega), List.getD_eq_getElem?_getD, List.getElem?_eq_getElem (by omega)] at he
  simp only [Option.getD_some] at he
  rw [he]
theorem same_all {l l' : List UInt8} {n : Nat} (h1 : l.length = n) (h2 : l'.length = n) (h : l.take n = l'.take n) : l = l' := by
  rw [List.take_of_length_le (by omega), List.take_of_length_le (by omega)] at h; exact h
theorem u8_ne {a b : UInt8} (h : ¬ (a = b)) : ¬ ((a.toNat : Int) = (b.toNat : Int)) := fun e => h (UInt8.toNat_inj.1 (by omega))
/-- some orders have been drawn, nothing else -/
def Dr (w w' : World) : Prop := ∃ n, w' = w.drewN n
theorem Dr.refl (w : World) : Dr w w := ⟨0, rfl⟩
theorem Dr.step {w w' : World} (h : Dr w w') (n : Nat) : Dr w (w'.drewN n) := by
  obtain ⟨m, rfl⟩ := h
  exact ⟨m + n, World.drewN_drewN ..⟩
theorem Dr.below {w w' : World} (h : Dr w w') : Below w.heap.size w w' := by
  obtain ⟨n, rfl⟩ := h
  exact below_drewN (Below.refl _ _) n
/-- what a test of two rows answers -/
def RetSame (w : World) (l l' : List UInt8) (e : Ending) (w' : World) : Prop := e = .returned (.bool (decide (l = l'))) ∧ Dr w w'

set_option maxRecDepth 100000 in
set_option maxHeartbeats 4000000 in
theorem rsame_any (A A' : Option Addr) (n c n' c' : Nat) (l l' : List UInt8) (w : World) (hr : Reads w w.heap.size 1 A n (B8 l)) (hr' : Reads w w.heap.size 1 A' n' (B8 l')) (hn : n ≤ 140737488355328) (hn' : n' ≤ 140737488355328) :
    Calls Try.prog 17 #[.slice A n c, .slice A' n' c'] w (RetSame w l l') := by
  have hl := hr.bytes_length
  have hl' := hr'.bytes_length
  by_cases hnn : n = n'
  · subst hnn
    have HR := Lib.hid (And.intro hr (And.intro hr' (And.intro hl hl')))
    clear hr hr' hl hl'
    go_enter Try.func17, Try.ntmps17
    go_wp2_with fail
    go_loopw [5] (fun i wr => ∃ k : Nat, k ≤ n ∧ i = .int .i64 (k : Int) ∧ Hid (l.take k = l'.take k) ∧ Dr w wr) (fun i _ => n - (intOf i).toNat)
    case atStart => exact ⟨0, by omega, rfl, Lib.hid (by simp), Dr.refl _⟩
    case round =>
      obtain ⟨k, hk, rfl, ht, hb⟩ := hrel
      have HB := Lib.hid hb
      clear hb
      by_cases hkn : k < n
      · obtain ⟨ad, rfl, hc⟩ := reads_cell (HR.out.1.below HB.out.below) hkn
        obtain ⟨ad', rfl, hc'⟩ := reads_cell (HR.out.2.1.below HB.out.below) hkn
        obtain ⟨x, hx⟩ : ∃ x, x = l.getD k 0 := ⟨_, rfl⟩
        obtain ⟨y, hy⟩ : ∃ y, y = l'.getD k 0 := ⟨_, rfl⟩
        rw [← hx] at hc
        rw [← hy] at hc'
        have HX := Lib.hid (And.intro hx hy)
        clear hx hy
        have k0 : (0 : Int) ≤ (k : Int) := by omega
        have hkI : (k : Int) < (n : Int) := by omega
        go_wp2_with fail
        go_quiet (fail)
        by_cases he : x = y
        · subst he
          have hT := Lib.hid (same_more HR.out.2.2.1 HR.out.2.2.2 hkn ht.out (by rw [← HX.out.1, ← HX.out.2]))
          go_wp2_with fail
          go_roundw
          case rel => exact ⟨k + 1, by omega, by go_num, hT, HB.out.step _⟩
          case measure => simp [intOf]; omega
        · have he2 := u8_ne he
          have hf : decide (l = l') = false := decide_eq_false fun e => he (by rw [HX.out.1, HX.out.2, e])
          have HF := Lib.hid hf
          clear hf
          go_wp2_with fail
          go_ret
          exact ⟨by rw [HF.out]; rfl, HB.out.step _⟩
      · obtain rfl : k = n := by omega
        have hf : decide (l = l') = true := decide_eq_true (same_all HR.out.2.2.1 HR.out.2.2.2 ht.out)
        have HF := Lib.hid hf
        clear hf
        go_wp2_with fail
        go_ret
        exact ⟨by rw [HF.out]; rfl, HB.out⟩
  · have hf : decide (l = l') = false := decide_eq_false fun e => hnn (by rw [← hl, ← hl', e])
    have HF := Lib.hid hf
    have hnI : ¬ ((n : Int) = (n' : Int)) := by omega
    clear hf hr hr' hl hl'
    go_enter Try.func17, Try.ntmps17
    go_wp2_with fail
    go_ret
    exact ⟨by rw [HF.out]; rfl, Dr.refl _⟩

def ors : List UInt8 → List UInt8 → Nat → UInt8
  | _, _, 0 => 0
  | l, m, k + 1 => ors l m k ||| (l.getD k 0 ^^^ m.getD k 0)
theorem u8_or_zero (a b : UInt8) : a ||| b = 0 ↔ a = 0 ∧ b = 0 := by
  rw [← UInt8.toBitVec_inj, ← UInt8.toBitVec_inj (a := a), ← UInt8.toBitVec_inj (a := b)]
  simp only [UInt8.toBitVec_or]
  constructor
  · intro h
    refine ⟨?_, ?_⟩
    · have : a.toBitVec = a.toBitVec &&& (a.toBitVec ||| b.toBitVec) := by ext i; simp; cases a.toBitVec[i] <;> simp
      rw [this, h]; simp
    · have : b.toBitVec = b.toBitVec &&& (a.toBitVec ||| b.toBitVec) := by ext i; simp; cases b.toBitVec[i] <;> simp
      rw [this, h]; simp
  · rintro ⟨h1, h2⟩
    rw [h1, h2]; rfl
theorem u8_xor_zero (a b : UInt8) : a ^^^ b = 0 ↔ a = b := by
  rw [← UInt8.toBitVec_inj, ← UInt8.toBitVec_inj (a := a)]
  simp only [UInt8.toBitVec_xor]
  constructor
  · intro h
    have : a.toBitVec = (a.toBitVec ^^^ b.toBitVec) ^^^ b.toBitVec := by rw [BitVec.xor_assoc, BitVec.xor_self, BitVec.xor_zero]
    rw [this, h]; simp
  · intro h; rw [h]; simp
theorem ors_zero (l m : List UInt8) (k : Nat) : ors l m k = 0 ↔ ∀ j, j < k → l.getD j 0 = m.getD j 0 := by
  induction k with
  | zero => simp [ors]
  | succ k ih =>
    rw [ors, u8_or_zero, ih, u8_xor_zero]
    constructor
    · rintro ⟨h1, h2⟩ j hj
      rcases Nat.lt_or_ge j k with h | h
      · exact h1 j h
      · obtain rfl : j = k := by omega
        exact h2
    · intro h
      exact ⟨fun j hj => h j (by omega), h k (by omega)⟩
theorem ors_eq {l m : List UInt8} {n : Nat} (h1 : l.length = n) (h2 : m.length = n) : (ors l m n = 0) = (l = m) := by
  rw [eq_iff_iff, ors_zero]
  constructor
  · intro h
    apply List.ext_getElem (by omega)
    intro j hj hj'
    have := h j (by omega)
    rw [List.getD_eq_getElem?_getD, List.getElem?_eq_getElem hj, List.getD_eq_getElem?_getD, List.getElem?_eq_getElem hj'] at this
    simpa using this
  · rintro rfl j _; rfl
def xor8 (x y : UInt8) : UInt8 := x ^^^ y
def or8 (x y : UInt8) : UInt8 := x ||| y
theorem u8_ofInt (x : UInt8) : BitVec.ofInt 8 (x.toNat : Int) = x.toBitVec := by
  rw [BitVec.ofInt_natCast]; simp
theorem u8_wrap (b : BitVec 8) : IntKind.u8.wrap (b.toNat : Int) = (b.toNat : Int) := by
  rw [IntKind.wrap_u8]; have := b.isLt; omega
theorem k8_xor (x y : UInt8) : bits .xor .u8 (x.toNat : Int) (y.toNat : Int) = ((xor8 x y).toNat : Int) := by
  show IntKind.u8.wrap ((BitVec.ofInt 8 (x.toNat : Int) ^^^ BitVec.ofInt 8 (y.toNat : Int)).toNat : Int) = _
  rw [u8_ofInt, u8_ofInt, u8_wrap]; rfl
theorem k8_or (x y : UInt8) : bits .or .u8 (x.toNat : Int) (y.toNat : Int) = ((or8 x y).toNat : Int) := by
  show IntKind.u8.wrap ((BitVec.ofInt 8 (x.toNat : Int) ||| BitVec.ofInt 8 (y.toNat : Int)).toNat : Int) = _
  rw [u8_ofInt, u8_ofInt, u8_wrap]; rfl
attribute [local go_sem] k8_xor k8_or
theorem u8_zero (x : UInt8) : ((x.toNat : Int) = 0) = (x = 0) := by
  rw [eq_iff_iff]
  constructor
  · intro h; exact UInt8.toNat_inj.1 (by simp; omega)
  · rintro rfl; rfl

set_option maxRecDepth 100000 in
set_option maxHeartbeats 4000000 in
theorem dsame_any (A A' : Option Addr) (n c n' c' : Nat) (l l' : List UInt8) (w : World) (hr : Reads w w.heap.size 1 A n (B8 l)) (hr' : Reads w w.heap.size 1 A' n' (B8 l')) (hn : n ≤ 140737488355328) (hn' : n' ≤ 140737488355328) :
    Calls Try.prog 28 #[.slice A n c, .slice A' n' c'] w (RetSame w l l') := by
  have hl := hr.bytes_length
  have hl' := hr'.bytes_length
  by_cases hnn : n = n'
  · subst hnn
    have HR := Lib.hid (And.intro hr (And.intro hr' (And.intro hl hl')))
    clear hr hr' hl hl'
    go_enter Try.func28, Try.ntmps28
    go_wp2_with fail
    go_loopw [5, 15] (fun d i wr => ∃ k : Nat, k ≤ n ∧ i = .int .i64 (k : Int) ∧ d = .int .u8 ((ors l l' k).toNat : Int) ∧ Dr w wr) (fun _ i _ => n - (intOf i).toNat)
    case atStart => exact ⟨0, by omega, rfl, rfl, Dr.refl _⟩
    case round =>
      obtain ⟨k, hk, rfl, rfl, hb⟩ := hrel
      have HB := Lib.hid hb
      clear hb
      obtain ⟨o, ho⟩ : ∃ o, o = ors l l' k := ⟨_, rfl⟩
      rw [← ho]
      by_cases hkn : k < n
      · obtain ⟨ad, rfl, hc⟩ := reads_cell (HR.out.1.below HB.out.below) hkn
        obtain ⟨ad', rfl, hc'⟩ := reads_cell (HR.out.2.1.below HB.out.below) hkn
        obtain ⟨x, hx⟩ : ∃ x, x = l.getD k 0 := ⟨_, rfl⟩
        obtain ⟨y, hy⟩ : ∃ y, y = l'.getD k 0 := ⟨_, rfl⟩
        rw [← hx] at hc
        rw [← hy] at hc'
        have HX := Lib.hid (show ors l l' (k + 1) = or8 o (xor8 x y) by rw [ors, ← ho, ← hx, ← hy]; rfl)
        clear hx hy ho
        have k0 : (0 : Int) ≤ (k : Int) := by omega
        have hkI : (k : Int) < (n : Int) := by omega
        go_wp2_with fail
        go_roundw
        case rel => exact ⟨k + 1, by omega, by go_num, by rw [HX.out], HB.out⟩
        case measure => simp [intOf]; omega
      · obtain rfl : k = n := by omega
        have hz : (ors l l' k = 0) = (l = l') := ors_eq HR.out.2.2.1 HR.out.2.2.2
        rw [← ho] at hz
        have hd : decide ((o.toNat : Int) = 0) = decide (l = l') := decide_eq_decide.2 (by rw [u8_zero, hz])
        have HF := Lib.hid hd
        clear ho hz hd
        go_wp2_with fail
        go_ret
        exact ⟨by rw [← HF.out]; rfl, HB.out⟩
  · have hf : decide (l = l') = false := decide_eq_false fun e => hnn (by rw [← hl, ← hl', e])
    have HF := Lib.hid hf
    have hnI : ¬ ((n : Int) = (n' : Int)) := by omega
    clear hf hr hr' hl hl'
    go_enter Try.func28, Try.ntmps28
    go_wp2_with fail
    go_ret
    exact ⟨by rw [HF.out]; rfl, Dr.refl _⟩
end Go.Proofs.Ytjnakhgpenafdaa
