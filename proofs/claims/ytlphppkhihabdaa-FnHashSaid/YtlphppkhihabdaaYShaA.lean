/- What a block of SHA-512 does to the eight numbers: plain Lean on lists of whole numbers. -/
import Derived.Test.YtlphppkhihabdaaYArr
set_option linter.unusedVariables false
namespace Go.Proofs.Ytlphppkhihabdaa.ShaA
open Go Go.RowKit Go.Proofs.Ytlphppkhihabdaa.Limb Go.Proofs.Ytlphppkhihabdaa.Arr Go.Proofs.YtlphppkhihabdaaW.PrintWords
def w6 (x : Int) : Int := IntKind.u64.wrap x
/-- x turned right by n -/
def rr (x : Int) (n : Nat) : Int := bits .or .u64 (shr .u64 x n) (shl .u64 x ((64 - n : Nat) : Int))
def sA (x : Int) : Int := bits .xor .u64 (bits .xor .u64 (rr x 1) (rr x 8)) (shr .u64 x 7)
def sB (x : Int) : Int := bits .xor .u64 (bits .xor .u64 (rr x 19) (rr x 61)) (shr .u64 x 6)
def sC (x : Int) : Int := bits .xor .u64 (bits .xor .u64 (rr x 28) (rr x 34)) (rr x 39)
def sD (x : Int) : Int := bits .xor .u64 (bits .xor .u64 (rr x 14) (rr x 18)) (rr x 41)
def chF (e f g : Int) : Int := bits .xor .u64 (bits .and .u64 e f) (bits .and .u64 (bits .xor .u64 (if IntKind.u64.signed = true then -1 else IntKind.u64.max) e) g)
def mjF (a b c : Int) : Int := bits .xor .u64 (bits .xor .u64 (bits .and .u64 a b) (bits .and .u64 a c)) (bits .and .u64 b c)
/-- the number of eight bytes -/
def bin8 (b : List Int) : Nat → Int
  | 0 => 0
  | k + 1 => bits .or .u64 (w6 (bin8 b k * 256)) (w6 (b.getD k 0))
def z80 : List Int := List.replicate 80 0
def cut8 (b : List Int) (k : Nat) : List Int := (b.take (8 * k + 8)).drop (8 * k)
theorem cut8_length (b : List Int) (hb : b.length = 128) (k : Nat) (hk : k < 16) : (cut8 b k).length = 8 := by
  unfold cut8
  rw [List.length_drop, List.length_take]; omega
def wA (b : List Int) : Nat → List Int
  | 0 => z80
  | k + 1 => (wA b k).set k (bin8 (cut8 b k) 8)
def wNx (W : List Int) (i : Nat) : Int := w6 (w6 (w6 (W.getD (i - 16) 0 + sA (W.getD (i - 15) 0)) + W.getD (i - 7) 0) + sB (W.getD (i - 2) 0))
def wB (b : List Int) : Nat → List Int
  | 0 => wA b 16
  | k + 1 => (wB b k).set (k + 16) (wNx (wB b k) (k + 16))
theorem wA_length (b : List Int) (k : Nat) : (wA b k).length = 80 := by
  induction k with
  | zero => rfl
  | succ k ih => unfold wA; rw [List.length_set, ih]
theorem wB_length (b : List Int) (k : Nat) : (wB b k).length = 80 := by
  induction k with
  | zero => exact wA_length b 16
  | succ k ih => unfold wB; rw [List.length_set, ih]
/-- one of the eighty rounds -/
def t1F (K W v : List Int) (i : Nat) : Int := w6 (w6 (w6 (w6 (v.getD 7 0 + sD (v.getD 4 0)) + chF (v.getD 4 0) (v.getD 5 0) (v.getD 6 0)) + K.getD i 0) + W.getD i 0)
def t2F (v : List Int) : Int := w6 (sC (v.getD 0 0) + mjF (v.getD 0 0) (v.getD 1 0) (v.getD 2 0))
def rnd (K W v : List Int) (i : Nat) : List Int :=
  [w6 (t1F K W v i + t2F v), v.getD 0 0, v.getD 1 0, v.getD 2 0, w6 (v.getD 3 0 + t1F K W v i), v.getD 4 0, v.getD 5 0, v.getD 6 0]
def rds (K W h : List Int) : Nat → List Int
  | 0 => h
  | k + 1 => rnd K W (rds K W h k) k
theorem rds_length (K W h : List Int) (hh : h.length = 8) (k : Nat) : (rds K W h k).length = 8 := by
  cases k with
  | zero => exact hh
  | succ k => rfl
def addH (h v : List Int) : Nat → List Int
  | 0 => h
  | k + 1 => (addH h v k).set k (w6 ((addH h v k).getD k 0 + v.getD k 0))
theorem addH_length (h v : List Int) (k : Nat) : (addH h v k).length = h.length := by
  induction k with
  | zero => rfl
  | succ k ih => unfold addH; rw [List.length_set, ih]
/-- a block: the numbers behind it -/
def blkH (K h b : List Int) : List Int := addH h (rds K (wB b 64) h 80) 8
def shaH : List Int := [7640891576956012808, 13503953896175478587, 4354685564936845355, 11912009170470909681, 5840696475078001361, 11170449401992604703, 2270897969802886507, 6620516959819538809]
def shaK : List Int := [4794697086780616226, 8158064640168781261, 13096744586834688815, 16840607885511220156, 4131703408338449720, 6480981068601479193, 10538285296894168987, 12329834152419229976, 15566598209576043074, 1334009975649890238, 2608012711638119052, 6128411473006802146, 8268148722764581231, 9286055187155687089, 11230858885718282805, 13951009754708518548, 16472876342353939154, 17275323862435702243, 1135362057144423861, 2597628984639134821, 3308224258029322869, 5365058923640841347, 6679025012923562964, 8573033837759648693, 10970295158949994411, 12119686244451234320, 12683024718118986047, 13788192230050041572, 14330467153632333762, 15395433587784984357, 489312712824947311, 1452737877330783856, 2861767655752347644, 3322285676063803686, 5560940570517711597, 5996557281743188959, 7280758554555802590, 8532644243296465576, 9350256976987008742, 10552545826968843579, 11727347734174303076, 12113106623233404929, 14000437183269869457, 14369950271660146224, 15101387698204529176, 15463397548674623760, 17586052441742319658, 1182934255886127544, 1847814050463011016, 2177327727835720531, 2830643537854262169, 3796741975233480872, 4115178125766777443, 5681478168544905931, 6601373596472566643, 7507060721942968483, 8399075790359081724, 8693463985226723168, 9568029438360202098, 10144078919501101548, 10430055236837252648, 11840083180663258601, 13761210420658862357, 14299343276471374635, 14566680578165727644, 15097957966210449927, 16922976911328602910, 17689382322260857208, 500013540394364858, 748580250866718886, 1242879168328830382, 1977374033974150939, 2944078676154940804, 3659926193048069267, 4368137639120453308, 4836135668995329356, 5532061633213252278, 6448918945643986474, 6902733635092675308, 7801388544844847127]
/-- eight bytes of a number, the highest first -/
def be8 (x : Int) : List Int := [shr .i64 x 56 % 256, shr .i64 x 48 % 256, shr .i64 x 40 % 256, shr .i64 x 32 % 256, shr .i64 x 24 % 256, shr .i64 x 16 % 256, shr .i64 x 8 % 256, shr .i64 x 0 % 256]
def zN (n : Nat) : Nat := (240 - (n + 1) % 128) % 128
def padL (l : List Int) : List Int := ((l ++ [128]) ++ List.replicate (zN l.length) 0) ++ be8 0 ++ be8 (8 * (l.length : Int))
theorem be8_length (x : Int) : (be8 x).length = 8 := rfl
theorem padL_length (l : List Int) : (padL l).length = l.length + 1 + zN l.length + 16 := by
  simp only [padL, List.length_append, List.length_replicate, be8_length, List.length_singleton]
theorem padL_mod (l : List Int) : (padL l).length % 128 = 0 := by
  rw [padL_length]; unfold zN; omega
/-- block i -/
def blkL (p : List Int) (i : Nat) : List Int := (p.take (128 * i + 128)).drop (128 * i)
def hsh (K h p : List Int) : Nat → List Int
  | 0 => h
  | k + 1 => blkH K (hsh K h p k) (blkL p k)
/-- the bytes of the numbers, the k first of them -/
def outL (vs : List Int) : Nat → List Int
  | 0 => []
  | k + 1 => outL vs k ++ be8 (IntKind.i64.wrap (vs.getD k 0))
def digest (l : List Int) : List Int := outL (hsh shaK shaH (padL l) ((padL l).length / 128)) 8
end Go.Proofs.Ytlphppkhihabdaa.ShaA
