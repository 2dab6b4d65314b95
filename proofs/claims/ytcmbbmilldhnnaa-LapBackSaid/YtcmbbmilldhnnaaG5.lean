/- Texts bundled: WinTab Times MinMax Asked BlockPlain Analyse SynPlain Synth AnaBad WinBad Zero BlockAny BlockZero WinGet. -/
import Derived.Test.YtcmbbmilldhnnaaG4
import Derived.Test.YtcmbbmilldhnnaaG2
import Derived.Test.YtcmbbmilldhnnaaG1
import Derived.Shelf.Slices.Turned
import Derived.Test.YtcmbbmilldhnnaaShelf
import Derived.Ground.NamesProg
import Derived.Test.YtcmbbmilldhnnaaG3
/- The four halves, as lists of numbers. -/
set_option linter.unusedVariables false
namespace Go.Proofs.Ytcmbbmilldhnnaa

def sumTabL : List Int := [0, 16384, 44489, 87963, 151134, 239086, 357744, 513970, 715648, 971797, 1292668, 1689855, 2176408, 2766972, 3477879, 4327311, 5335396, 6524384, 7918754, 9545366, 11433625, 13615595, 16126159, 19003183,
  22287623, 26023737, 30259178, 35045153, 40436605, 46492245, 53274796, 60851072, 69292115, 78673326, 89074517, 100580038, 113278960, 127264957, 142636599, 159497192, 177955012, 198123277, 220120016, 244068325, 270096125, 298336255, 328926437, 362008912,
  397730941, 436244156, 477704674, 522273045, 570113596, 621394860, 676288982, 734971629, 797621786, 864421169, 935554434, 1011208593, 1091572347, 1176836402, 1267192380, 1362833175, 1463952148, 1570742280, 1683396614, 1802107074, 1927064243, 2058457157, 2196471655, 2341291867,
  2493097971, 2652066243, 2818369145, 2992172920, 3173639272, 3362923476, 3560174214, 3765533360, 3979134393, 4201103367, 4431557607, 4670604329, 4918341913, 5174857568, 5440228777, 5714521910, 5997790827, 6290078261, 6591414253, 6901815988, 7221288261, 7549820694, 7887391669, 8233964492,
  8589488419, 8953899728, 9327117686, 9709049140, 10099585575, 10498603958, 10905967259, 11321522626, 11745104234, 12176531760, 12615609464, 13062129053, 13515866957, 13976587827, 14444043296, 14917970680, 15398096397, 15884134334, 16375786956, 16872746710, 17374692988, 17881298875, 18392226641, 18907129768,
  19425655799, 19947441313, 20472119277, 20999315719, 21528651661, 22059744610, 22592206920, 23125649924, 23659682757, 24193911818, 24727944651, 25261387655, 25793849965, 26324942914, 26854278856, 27381475298, 27906153262, 28427938776, 28946464807, 29461367934, 29972295700, 30478901587, 30980847865, 31477807619,
  31969460241, 32455498178, 32935623895, 33409551279, 33877006748, 34337727618, 34791465522, 35237985111, 35677062815, 36108490341, 36532071949, 36947627316, 37354990617, 37754009000, 38144545435, 38526476889, 38899694847, 39264106156, 39619630083, 39966202906, 40303773881, 40632306314, 40951778587, 41262180322,
  41563516314, 41855803748, 42139072665, 42413365798, 42678737007, 42935252662, 43182990246, 43422036968, 43652491208, 43874460182, 44088061215, 44293420361, 44490671099, 44679955303, 44861421655, 45035225430, 45201528332, 45360496604, 45512302708, 45657122920, 45795137418, 45926530332, 46051487501, 46170197961,
  46282852295, 46389642427, 46490761400, 46586402195, 46676758173, 46762022228, 46842385982, 46918040141, 46989173406, 47055972789, 47118622946, 47177305593, 47232199715, 47283480979, 47331321530, 47375889901, 47417350419, 47455863634, 47491585663, 47524668138, 47555258320, 47583498450, 47609526250, 47633474559,
  47655471298, 47675639563, 47694097383, 47710957976, 47726329618, 47740315615, 47753014537, 47764520058, 47774921249, 47784302460, 47792743503, 47800319779, 47807102330, 47813157970, 47818549422, 47823335397, 47827570838, 47831306952, 47834591392, 47837468416, 47839978980, 47842160950, 47844049209, 47845675821,
  47847070191, 47848259179, 47849267264, 47850116696, 47850827603, 47851418167, 47851904720, 47852301907, 47852622778, 47852878927, 47853080605, 47853236831, 47853355489, 47853443441, 47853506612, 47853550086, 47853578191, 47853594575]
def sumTabS : List Int := [0, 16384, 1855592, 22023857, 140140269, 626178206, 2196540976, 6419974372, 16213650298, 36251063033, 73002077870, 134122180098, 227064763999, 357094293538, 525220869630, 726783276173, 951330907186, 1184076957637, 1408624588650, 1610186995193, 1778313571285, 1908343100824, 2001285684725, 2062405786953,
  2099156801790, 2119194214525, 2128987890451, 2133211323847, 2134781686617, 2135267724554, 2135385840966, 2135406009231, 2135407848439, 2135407864823]
def sineTabL : List Int := [12868, 38603, 64337, 90069, 115797, 141521, 167239, 192951, 218656, 244353, 270040, 295718, 321384, 347038, 372679, 398306, 423918, 449514, 475093, 500654, 526196, 551719, 577221, 602701,
  628158, 653592, 679001, 704384, 729741, 755071, 780372, 805644, 830885, 856095, 881273, 906418, 931528, 956604, 981643, 1006646, 1031610, 1056536, 1081422, 1106267, 1131071, 1155832, 1180550, 1205223,
  1229850, 1254432, 1278966, 1303452, 1327889, 1352276, 1376612, 1400896, 1425128, 1449305, 1473429, 1497496, 1521508, 1545462, 1569358, 1593195, 1616972, 1640688, 1664342, 1687933, 1711461, 1734925, 1758323, 1781655,
  1804920, 1828117, 1851245, 1874304, 1897292, 1920208, 1943052, 1965823, 1988520, 2011143, 2033689, 2056159, 2078551, 2100866, 2123101, 2145256, 2167330, 2189323, 2211233, 2233061, 2254804, 2276462, 2298034, 2319520,
  2340919, 2362229, 2383451, 2404583, 2425624, 2446574, 2467432, 2488197, 2508868, 2529445, 2549926, 2570312, 2590601, 2610792, 2630885, 2650879, 2670773, 2690566, 2710259, 2729849, 2749336, 2768720, 2788000, 2807175,
  2826244, 2845206, 2864062, 2882810, 2901449, 2919979, 2938399, 2956708, 2974906, 2992992, 3010965, 3028825, 3046571, 3064202, 3081718, 3099118, 3116401, 3133567, 3150615, 3167544, 3184354, 3201044, 3217614, 3234062,
  3250389, 3266593, 3282675, 3298632, 3314466, 3330175, 3345758, 3361215, 3376546, 3391750, 3406826, 3421774, 3436593, 3451282, 3465842, 3480271, 3494569, 3508736, 3522770, 3536672, 3550440, 3564075, 3577576, 3590942,
  3604173, 3617268, 3630227, 3643050, 3655735, 3668282, 3680692, 3692963, 3705094, 3717087, 3728939, 3740651, 3752222, 3763652, 3774940, 3786086, 3797090, 3807950, 3818668, 3829241, 3839670, 3849955, 3860095, 3870089,
  3879938, 3889640, 3899197, 3908606, 3917868, 3926983, 3935950, 3944768, 3953439, 3961960, 3970332, 3978555, 3986628, 3994550, 4002323, 4009944, 4017415, 4024735, 4031903, 4038919, 4045783, 4052495, 4059054, 4065460,
  4071714, 4077814, 4083760, 4089553, 4095192, 4100676, 4106006, 4111182, 4116203, 4121069, 4125779, 4130335, 4134734, 4138979, 4143067, 4146999, 4150776, 4154396, 4157859, 4161166, 4164316, 4167310, 4170147, 4172826,
  4175349, 4177714, 4179922, 4181973, 4183866, 4185602, 4187180, 4188601, 4189863, 4190969, 4191916, 4192705, 4193337, 4193811, 4194126, 4194284]
def sineTabS : List Int := [102933, 308552, 513428, 717066, 918977, 1118674, 1315677, 1509509, 1699705, 1885807, 2067365, 2243943, 2415115, 2580468, 2739606, 2892143, 3037712, 3175964, 3306565, 3429199, 3543573, 3649409, 3746454, 3834474,
  3913255, 3982610, 4042370, 4092391, 4132554, 4162761, 4182939, 4193041]
def kbdTabL : List Int := [2454, 4044, 5686, 7453, 9375, 11468, 13745, 16220, 18901, 21799, 24924, 28286, 31893, 35756, 39885, 44287, 48974, 53954, 59237, 64832, 70749, 76995, 83582, 90517,
  97810, 105470, 113505, 121924, 130735, 139946, 149567, 159604, 170065, 180958, 192290, 204069, 216300, 228990, 242147, 255774, 269879, 284467, 299542, 315109, 331173, 347737, 364806, 382381,
  400467, 419065, 438178, 457807, 477954, 498618, 519801, 541503, 563722, 586458, 609709, 633474, 657749, 682533, 707821, 733611, 759897, 786675, 813940, 841687, 869908, 898597, 927748, 957353,
  987403, 1017891, 1048807, 1080143, 1111888, 1144032, 1176564, 1209475, 1242751, 1276382, 1310355, 1344658, 1379278, 1414201, 1449414, 1484903, 1520654, 1556653, 1592884, 1629333, 1665984, 1702822, 1739831, 1776995,
  1814298, 1851724, 1889256, 1926878, 1964574, 2002325, 2040116, 2077930, 2115750, 2153558, 2191339, 2229074, 2266747, 2304342, 2341841, 2379228, 2416486, 2453599, 2490551, 2527325, 2563906, 2600277, 2636425, 2672332,
  2707984, 2743367, 2778466, 2813267, 2847756, 2881920, 2915745, 2949219, 2982329, 3015064, 3047412, 3079361, 3110902, 3142023, 3172714, 3202968, 3232773, 3262123, 3291009, 3319423, 3347358, 3374809, 3401769, 3428232,
  3454194, 3479650, 3504595, 3529028, 3552944, 3576341, 3599218, 3621572, 3643403, 3664711, 3685495, 3705756, 3725496, 3744715, 3763416, 3781601, 3799272, 3816434, 3833090, 3849244, 3864900, 3880065, 3894742, 3908937,
  3922658, 3935909, 3948698, 3961032, 3972918, 3984363, 3995376, 4005964, 4016136, 4025901, 4035266, 4044241, 4052835, 4061057, 4068916, 4076422, 4083584, 4090411, 4096914, 4103101, 4108983, 4114569, 4119869, 4124892,
  4129648, 4134147, 4138397, 4142408, 4146190, 4149751, 4153101, 4156248, 4159201, 4161969, 4164560, 4166982, 4169244, 4171352, 4173316, 4175142, 4176837, 4178409, 4179864, 4181209, 4182450, 4183594, 4184646, 4185612,
  4186497, 4187308, 4188048, 4188722, 4189336, 4189893, 4190398, 4190854, 4191266, 4191636, 4191968, 4192266, 4192531, 4192767, 4192977, 4193163, 4193327, 4193471, 4193597, 4193707, 4193802, 4193885, 4193956, 4194018,
  4194070, 4194114, 4194151, 4194182, 4194208, 4194229, 4194247, 4194261, 4194272, 4194281, 4194288, 4194293, 4194297, 4194300, 4194302, 4194303]
def kbdTabS : List Int := [367, 3909, 13469, 33978, 71823, 134520, 229977, 365476, 546487, 775509, 1051162, 1367711, 1715184, 2080129, 2446932, 2799531, 3123269, 3406568, 3642148, 3827574, 3965041, 4060448, 4121986, 4158549,
  4178350, 4187994, 4192146, 4193688, 4194166, 4194282, 4194302, 4194303]

theorem sine_long : hvL 0 false = sineTabL := by decide +kernel
theorem sine_short : hvL 0 true = sineTabS := by decide +kernel

theorem sum_stepL : (List.range 257).all (fun j => decide (sumTabL.getD (j + 1) 0 = sumTabL.getD j 0 + bessL (uL 256 4 j))) = true := by decide +kernel
theorem psum_tabL : ∀ j, j ≤ 257 → psum 256 4 j = sumTabL.getD j 0
  | 0, _ => by rw [psum]; decide +kernel
  | j + 1, h => by
    have e := List.all_eq_true.1 sum_stepL j (List.mem_range.2 (by omega))
    rw [decide_eq_true_eq] at e
    rw [psum, psum_tabL j (by omega), e]
def kbdTL (n : Nat) : Int := sqN (overL (sumTabL.getD 257 0) 44 (sumTabL.getD (n + 1) 0) 0).toNat
theorem kbd_tabsL : (List.range 256).map kbdTL = kbdTabL := by decide +kernel
theorem kbd_long_tab : hvL 1 false = kbdTabL := by
  rw [← kbd_tabsL]
  show (List.range 256).map (kbdV 256 4) = _
  apply List.map_congr_left
  intro n hn
  have hn := List.mem_range.1 hn
  rw [kbdV, kbdTL, psum_tabL _ (Nat.le_refl _), psum_tabL _ (by omega)]

theorem sum_stepS : (List.range 33).all (fun j => decide (sumTabS.getD (j + 1) 0 = sumTabS.getD j 0 + bessL (uL 32 6 j))) = true := by decide +kernel
theorem psum_tabS : ∀ j, j ≤ 33 → psum 32 6 j = sumTabS.getD j 0
  | 0, _ => by rw [psum]; decide +kernel
  | j + 1, h => by
    have e := List.all_eq_true.1 sum_stepS j (List.mem_range.2 (by omega))
    rw [decide_eq_true_eq] at e
    rw [psum, psum_tabS j (by omega), e]
def kbdTS (n : Nat) : Int := sqN (overL (sumTabS.getD 33 0) 44 (sumTabS.getD (n + 1) 0) 0).toNat
theorem kbd_tabsS : (List.range 32).map kbdTS = kbdTabS := by decide +kernel
theorem kbd_short_tab : hvL 1 true = kbdTabS := by
  rw [← kbd_tabsS]
  show (List.range 32).map (kbdV 32 6) = _
  apply List.map_congr_left
  intro n hn
  have hn := List.mem_range.1 hn
  rw [kbdV, kbdTS, psum_tabS _ (Nat.le_refl _), psum_tabS _ (by omega)]

/-- The half, as a list of numbers. -/
def tabL (shape : Int) (short : Bool) : List Int := if shape = 0 then (if short then sineTabS else sineTabL) else (if short then kbdTabS else kbdTabL)
theorem hv_tab (shape : Int) (short : Bool) (h : shape = 0 ∨ shape = 1) : hvL shape short = tabL shape short := by
  rcases h with rfl | rfl <;> cases short
  · exact sine_long
  · exact sine_short
  · exact kbd_long_tab
  · exact kbd_short_tab
/-- What the stage's theorem says of each value. -/
def powOk (l : List Int) (n : Nat) : Bool :=
  decide (0 < l.getD n 0) && decide (l.getD n 0 ≤ 4194304) && (decide (n = 0) || decide (l.getD (n - 1) 0 ≤ l.getD n 0)) &&
  decide (l.getD n 0 * l.getD n 0 + l.getD (l.length - 1 - n) 0 * l.getD (l.length - 1 - n) 0 - 17592186044416 ≤ 33554432) &&
  decide (-33554432 ≤ l.getD n 0 * l.getD n 0 + l.getD (l.length - 1 - n) 0 * l.getD (l.length - 1 - n) 0 - 17592186044416)
theorem pow_sineL : (List.range 256).all (powOk sineTabL) = true := by decide +kernel
theorem pow_sineS : (List.range 32).all (powOk sineTabS) = true := by decide +kernel
theorem pow_kbdL : (List.range 256).all (powOk kbdTabL) = true := by decide +kernel
theorem pow_kbdS : (List.range 32).all (powOk kbdTabS) = true := by decide +kernel
end Go.Proofs.Ytcmbbmilldhnnaa
/- block.times: each number times a value, rounded off. -/
set_option linter.unusedVariables false
namespace Go.Proofs.Ytcmbbmilldhnnaa
open Go.ChangeShapes Go.WideShapes Go.ChangeAt Go.RowKit

def timeV (l v : List Int) (b : Nat) (j : Nat) : Int := rnd (l.getD j 0 * v.getD j 0) b
def timesL (l v : List Int) (b : Nat) : List Int := (List.range l.length).map (timeV l v b)
theorem timesL_len (l v : List Int) (b : Nat) : (timesL l v b).length = l.length := by simp [timesL]
set_option maxRecDepth 100000 in
set_option maxHeartbeats 1000000 in
theorem times_ok (l v : List Int) (b : Nat) (hb0 : b ≤ 62) (p q : Option Addr) (c d nv : Nat) (w : World) (hI : IsInts w p l) (hV : IsInts w q v) (hnv : v.length = nv) (hlen : l.length ≤ nv) (hn : l.length ≤ 4096)
    (hM : ∀ j, j < l.length → -4611686018427387904 ≤ l.getD j 0 * v.getD j 0 ∧ l.getD j 0 * v.getD j 0 ≤ 4611686018427387904) :
    Calls Try.prog 27 #[.slice p l.length c, .slice q nv d, .int .i64 b] w (RRowF (timesL l v b) w) := by
  obtain ⟨i0, hi, hz0, hz1, hz2⟩ := info_parts Try.infoInt
  have HI := Lib.hid hI.inB
  have HV := Lib.hid hV.inB
  have HM := Lib.hid hM
  have HNV := Lib.hid hnv
  unfold RRowF
  rw [timesL_len]
  obtain ⟨n, hnl⟩ : ∃ n, l.length = n := ⟨_, rfl⟩
  have HN := Lib.hid hnl
  rw [hnl] at hlen hn ⊢
  clear hI hV hM hnv hnl
  go_enter Try.func27, Try.ntmps27
  go_wp2_with (at_make; refine wpList_make_full _ rfl _ _ 22 rfl w.heap.size 3 i0 (.int .i64 0) 1 Try.underlying22 hi hz0 hz1 .i64 .i64 _ _ n rfl rfl ?hL ?hC ?b2 ?b3 ?b4 ?_)
  case hL => rfl
  case hC => rfl
  case b2 => rw [hz2]; omega
  case b3 => unfold maxLen; omega
  case b4 => exact Nat.le_refl _
  intro w1 hown hgrow
  have hb1 : Below w.heap.size w w1 := (Below.refl _ _).grown hgrow (by simp) (by simp)
  have hg1 : w.heap.size < w1.heap.size := (hown.lt _ rfl).2
  have hown1 : w1.ownsRow w.heap.size 3 1 (.slice (some ⟨w.heap.size, 0, none⟩) n n) n (List.replicate n (.int .i64 0)) := by
    have e := toList_madeCells_one (.int .i64 0) n
    rw [← e]; simpa using hown
  have HO1 := Lib.hid hown1
  have HB1 := Lib.hid hb1
  clear hgrow hown hown1 hb1
  go_wp2
  go_loopw [15] (fun I wr => ∃ (k : Nat) (xs : List Value), I = .int .i64 k ∧ k ≤ n ∧ Hid (wr.ownsRow w.heap.size 3 1 (.slice (some ⟨w.heap.size, 0, none⟩) n n) n xs) ∧ Hid (xs.length = n) ∧ Hid (Below w.heap.size w wr) ∧ w.heap.size < wr.heap.size ∧ Hid (∀ j, j < k → xs[j]? = some (.int .i64 (timeV l v b j)))) (fun I _ => n - (intOf I).toNat)
  case atStart => exact ⟨0, _, rfl, Nat.zero_le _, HO1, Lib.hid (by simp), HB1, hg1, Lib.hid (fun _ h => absurd h (Nat.not_lt_zero _))⟩
  case round =>
    obtain ⟨k, xs, rfl, hk, hO, hlx, hbq, hgq, hxs⟩ := hrel
    clear HO1 HB1
    by_cases hlt : k < n
    · have hd : decide ((k : Int) < (n : Int)) = true := decide_eq_true (by omega)
      obtain ⟨b1, o1, rfl, hc1⟩ := (HI.out.keep hbq.out (Nat.le_refl _)).at (j := k) (by rw [HN.out]; exact hlt)
      obtain ⟨b2, o2, rfl, hc2⟩ := (HV.out.keep hbq.out (Nat.le_refl _)).at (j := k) (by rw [HNV.out]; omega)
      obtain ⟨m0, m1⟩ := HM.out k (by rw [HN.out]; exact hlt)
      have hT := Lib.hid (show timeV l v b k = rnd (l.getD k 0 * v.getD k 0) b from rfl)
      obtain ⟨x, hx⟩ : ∃ x, l.getD k 0 = x := ⟨_, rfl⟩
      obtain ⟨y, hy⟩ : ∃ y, v.getD k 0 = y := ⟨_, rfl⟩
      rw [hx] at hc1 m0 m1 hT
      rw [hy] at hc2 m0 m1 hT
      obtain ⟨P, hP⟩ : ∃ P, x * y = P := ⟨_, rfl⟩
      have hwr : IntKind.i64.wrap (x * y) = P := by rw [hP, IntKind.wrap_i64]; omega
      rw [hP] at m0 m1 hT
      have HR := Lib.hid (fun W => round_ok P b m0 m1 hb0 W)
      unfold RRound at HR
      have hkn : k < n := hlt
      have hcO := hO.out.cellAt k (by omega)
      have hfO := hO.out.frozenAt k
      obtain ⟨Z, hZ⟩ : ∃ Z, rnd P b = Z := ⟨_, rfl⟩
      rw [hZ] at HR hT
      have hS := hO.out.stored k (.int .i64 Z)
      have hO2 := Lib.hid hS.1
      have hx2 := Lib.hid (fill_step hlx.out hlt hxs.out hT.out)
      have hl2 := Lib.hid (show (xs.set k (.int .i64 Z)).length = n by simp [hlx.out])
      obtain ⟨u0, hu0⟩ : ∃ u0, xs[k]? = some u0 := ⟨_, List.getElem?_eq_getElem (by rw [hlx.out]; exact hlt)⟩
      rw [hu0] at hcO
      clear hS hxs hO hx hy hP hZ hu0 hT hlx m0 m1 HI HV HM
      go_wp2_with fail
      refine (HR.out _).mono ?_
      rintro e w2 ⟨rfl, m, rfl⟩
      have hcO' : (wr.drewN m).cell? ⟨w.heap.size, k, none⟩ = some u0 := hcO
      have hfO' : (wr.drewN m).frozen? ⟨w.heap.size, k, none⟩ = false := hfO
      have hO2 := Lib.hid (show ((wr.drewN m).setCell ⟨w.heap.size, k, none⟩ (.int .i64 Z)).ownsRow w.heap.size 3 1 (.slice (some ⟨w.heap.size, 0, none⟩) n n) n (xs.set k (.int .i64 Z)) from hO2.out)
      have hb2 := Lib.hid (show Below w.heap.size w ((wr.drewN m).setCell ⟨w.heap.size, k, none⟩ (.int .i64 Z)) from ((below_drewN hbq.out m).setCell (p := ⟨w.heap.size, k, none⟩) (Nat.le_refl _) (.int .i64 Z)))
      clear HR hcO hfO hbq
      go_wp2
      exact ⟨⟨k + 1, _, by go_num, by omega, hO2, hl2, hb2, by simpa [World.setCell] using hgq, hx2⟩, by simp [intOf]; omega⟩
    · have hd : decide ((k : Int) < (n : Int)) = false := decide_eq_false (by omega)
      have hkn := Lib.hid (show k = n by omega)
      go_wp2
      go_ret
      have e := fill_eq hlx.out (by rw [← hkn.out]; exact hxs.out)
      have h := hO.out
      rw [e] at h
      exact ⟨_, rfl, by unfold timesL; rw [HN.out]; exact h, Nat.le_refl _, hgq, hbq.out⟩
end Go.Proofs.Ytcmbbmilldhnnaa
/- slices.Min and slices.Max over integers: the shelf's contracts, laid. -/
set_option linter.unusedVariables false
namespace Go.Proofs.Ytcmbbmilldhnnaa
open Go.Shelf Go.RowKit
theorem max_ok {w : World} {p : Option Addr} {l : List Int} (h : IsInts w p l) (c : Nat) (h0 : 0 < l.length) (hb : l.length ≤ 9223372036854775807) :
    Calls Try.prog 37 #[.slice p l.length c] w (fun e w' => e = .returned (.int .i64 (Lib.maxOf l)) ∧ w' = w) := by
  rcases h with rfl | ⟨b, off, rfl, hlt, hc⟩
  · simp at h0
  · have := Any.slices_Max_int Try.laysMax b off l.length c l w h0 (Nat.le_refl _) hb hc
    rw [List.take_length] at this
    exact this
theorem min_ok {w : World} {p : Option Addr} {l : List Int} (h : IsInts w p l) (c : Nat) (h0 : 0 < l.length) (hb : l.length ≤ 9223372036854775807) :
    Calls Try.prog 36 #[.slice p l.length c] w (fun e w' => e = .returned (.int .i64 (Lib.minOf l)) ∧ w' = w) := by
  rcases h with rfl | ⟨b, off, rfl, hlt, hc⟩
  · simp at h0
  · have := Any.slices_Min_int Try.laysMin b off l.length c l w h0 (Nat.le_refl _) hb hc
    rw [List.take_length] at this
    exact this
theorem foldl_max_le : ∀ (l : List Int) (a m : Int), l.foldl max a ≤ m ↔ a ≤ m ∧ ∀ x ∈ l, x ≤ m
  | [], a, m => by simp
  | y :: l, a, m => by
    rw [List.foldl_cons, foldl_max_le l (max a y) m]
    simp only [List.mem_cons, forall_eq_or_imp]
    constructor
    · rintro ⟨h, h2⟩; exact ⟨by omega, by omega, h2⟩
    · rintro ⟨h, h1, h2⟩; exact ⟨by omega, h2⟩
theorem le_foldl_min : ∀ (l : List Int) (a m : Int), m ≤ l.foldl min a ↔ m ≤ a ∧ ∀ x ∈ l, m ≤ x
  | [], a, m => by simp
  | y :: l, a, m => by
    rw [List.foldl_cons, le_foldl_min l (min a y) m]
    simp only [List.mem_cons, forall_eq_or_imp]
    constructor
    · rintro ⟨h, h2⟩; exact ⟨by omega, by omega, h2⟩
    · rintro ⟨h, h1, h2⟩; exact ⟨by omega, h2⟩
theorem maxOf_le {l : List Int} (h : 0 < l.length) (m : Int) : Lib.maxOf l ≤ m ↔ ∀ x ∈ l, x ≤ m := by
  unfold Lib.maxOf
  rw [foldl_max_le]
  cases l with
  | nil => simp at h
  | cons a l => simp
theorem le_minOf {l : List Int} (h : 0 < l.length) (m : Int) : m ≤ Lib.minOf l ↔ ∀ x ∈ l, m ≤ x := by
  unfold Lib.minOf
  rw [le_foldl_min]
  cases l with
  | nil => simp at h
  | cons a l => simp
end Go.Proofs.Ytcmbbmilldhnnaa
/- block.asked: what each call answers. -/
set_option linter.unusedVariables false
namespace Go.Proofs.Ytcmbbmilldhnnaa
open Go.ChangeShapes Go.WideShapes Go.ChangeAt Go.RowKit
def askedE (seq was shape : Int) (l : List Int) (many : Nat) (lo hi : Int) : Int :=
  if 3 < seq then 2 else if (decide (was ≤ 1) && decide (shape ≤ 1)) = false then 2 else if l.length ≠ many then 4 else if Lib.minOf l < lo then 2 else if hi < Lib.maxOf l then 2 else 0
def RAsked (v : Int) (w : World) (e : Ending) (w' : World) : Prop := e = .returned (.int .i64 v) ∧ w = w'
theorem askedE_zero {seq was shape : Int} {l : List Int} {many : Nat} {lo hi : Int} (hm : 0 < many) : askedE seq was shape l many lo hi = 0 ↔ seq ≤ 3 ∧ was ≤ 1 ∧ shape ≤ 1 ∧ l.length = many ∧ ∀ x ∈ l, lo ≤ x ∧ x ≤ hi := by
  unfold askedE
  by_cases h1 : 3 < seq
  · rw [if_pos h1]; constructor
    · intro h; omega
    · intro h; omega
  rw [if_neg h1]
  by_cases h2 : (decide (was ≤ 1) && decide (shape ≤ 1)) = false
  · rw [if_pos h2]; constructor
    · intro h; omega
    · rintro ⟨_, a, b, _⟩; simp [a, b] at h2
  rw [if_neg h2]
  have h2' : was ≤ 1 ∧ shape ≤ 1 := by simpa using h2
  by_cases h3 : l.length ≠ many
  · rw [if_pos h3]; constructor
    · intro h; omega
    · rintro ⟨_, _, _, a, _⟩; exact absurd a h3
  rw [if_neg h3]
  have h3' : l.length = many := by omega
  have hl : 0 < l.length := by omega
  have a := le_minOf hl lo
  have b := maxOf_le hl hi
  by_cases h4 : Lib.minOf l < lo
  · rw [if_pos h4]; constructor
    · intro h; omega
    · rintro ⟨_, _, _, _, e⟩
      have := a.2 (fun x hx => (e x hx).1)
      omega
  rw [if_neg h4]
  by_cases h5 : hi < Lib.maxOf l
  · rw [if_pos h5]; constructor
    · intro h; omega
    · rintro ⟨_, _, _, _, e⟩
      have := b.2 (fun x hx => (e x hx).2)
      omega
  rw [if_neg h5]
  have a' := a.1 (by omega)
  have b' := b.1 (by omega)
  constructor
  · intro _; exact ⟨by omega, h2'.1, h2'.2, h3', fun x hx => ⟨a' x hx, b' x hx⟩⟩
  · intro _; rfl
set_option maxHeartbeats 1000000 in
theorem askedA (seq was shape : Int) (p : Option Addr) (n c : Nat) (many mn mx lo hi : Int) (w : World) (h1 : decide (3 < seq) = true) : Calls Try.prog 24 #[.int .u8 seq, .int .u8 was, .int .u8 shape, .slice p n c, .int .i64 many, .int .i64 lo, .int .i64 hi] w (RAsked 2 w) := by
  unfold RAsked
  go_enter Try.func24, Try.ntmps24
  go_wp2
  go_ret
  exact ⟨rfl, rfl⟩
set_option maxHeartbeats 1000000 in
theorem askedB (seq was shape : Int) (p : Option Addr) (n c : Nat) (many mn mx lo hi : Int) (w : World) (h1 : decide (3 < seq) = false) (h2 : (decide (was ≤ 1) && decide (shape ≤ 1)) = false) : Calls Try.prog 24 #[.int .u8 seq, .int .u8 was, .int .u8 shape, .slice p n c, .int .i64 many, .int .i64 lo, .int .i64 hi] w (RAsked 2 w) := by
  have HSH := Lib.hid (fun W => shaped_ok was shape W)
  rw [h2] at HSH
  clear h2
  unfold RAsked
  go_enter Try.func24, Try.ntmps24
  go_wp2_with fail
  refine (HSH.out _).mono ?_
  rintro e w1 ⟨rfl, hw⟩
  rw [← hw]
  clear hw w1
  go_wp2
  go_ret
  exact ⟨rfl, rfl⟩
set_option maxHeartbeats 1000000 in
theorem askedC (seq was shape : Int) (p : Option Addr) (n c : Nat) (many mn mx lo hi : Int) (w : World) (h1 : decide (3 < seq) = false) (h2 : (decide (was ≤ 1) && decide (shape ≤ 1)) = true) (h3 : ((n : Int) == many) = false) : Calls Try.prog 24 #[.int .u8 seq, .int .u8 was, .int .u8 shape, .slice p n c, .int .i64 many, .int .i64 lo, .int .i64 hi] w (RAsked 4 w) := by
  have HSH := Lib.hid (fun W => shaped_ok was shape W)
  rw [h2] at HSH
  clear h2
  unfold RAsked
  go_enter Try.func24, Try.ntmps24
  go_wp2_with fail
  refine (HSH.out _).mono ?_
  rintro e w1 ⟨rfl, hw⟩
  rw [← hw]
  clear hw w1
  go_wp2
  go_ret
  exact ⟨rfl, rfl⟩
set_option maxHeartbeats 1000000 in
theorem askedD (seq was shape : Int) (p : Option Addr) (n c : Nat) (many mn mx lo hi : Int) (w : World) (h1 : decide (3 < seq) = false) (h2 : (decide (was ≤ 1) && decide (shape ≤ 1)) = true) (h3 : ((n : Int) == many) = true) (h4 : decide (mn < lo) = true) (HMIN : Hid (∀ W, W = w → Calls Try.prog 36 #[.slice p n c] W (fun e w' => e = .returned (.int .i64 mn) ∧ w' = W))) : Calls Try.prog 24 #[.int .u8 seq, .int .u8 was, .int .u8 shape, .slice p n c, .int .i64 many, .int .i64 lo, .int .i64 hi] w (RAsked 2 w) := by
  have HSH := Lib.hid (fun W => shaped_ok was shape W)
  rw [h2] at HSH
  clear h2
  unfold RAsked
  go_enter Try.func24, Try.ntmps24
  go_wp2_with fail
  refine (HSH.out _).mono ?_
  rintro e w1 ⟨rfl, hw⟩
  rw [← hw]
  clear hw w1
  go_wp2_with fail
  refine (HMIN.out _ rfl).mono ?_
  rintro e w1 ⟨rfl, hw⟩
  rw [hw]
  clear hw w1
  go_wp2
  go_ret
  exact ⟨rfl, rfl⟩
set_option maxHeartbeats 1000000 in
theorem askedE1 (seq was shape : Int) (p : Option Addr) (n c : Nat) (many mn mx lo hi : Int) (w : World) (h1 : decide (3 < seq) = false) (h2 : (decide (was ≤ 1) && decide (shape ≤ 1)) = true) (h3 : ((n : Int) == many) = true) (h4 : decide (mn < lo) = false) (h5 : decide (hi < mx) = true) (HMIN : Hid (∀ W, W = w → Calls Try.prog 36 #[.slice p n c] W (fun e w' => e = .returned (.int .i64 mn) ∧ w' = W))) (HMAX : Hid (∀ W, W = w → Calls Try.prog 37 #[.slice p n c] W (fun e w' => e = .returned (.int .i64 mx) ∧ w' = W))) : Calls Try.prog 24 #[.int .u8 seq, .int .u8 was, .int .u8 shape, .slice p n c, .int .i64 many, .int .i64 lo, .int .i64 hi] w (RAsked 2 w) := by
  have HSH := Lib.hid (fun W => shaped_ok was shape W)
  rw [h2] at HSH
  clear h2
  unfold RAsked
  go_enter Try.func24, Try.ntmps24
  go_wp2_with fail
  refine (HSH.out _).mono ?_
  rintro e w1 ⟨rfl, hw⟩
  rw [← hw]
  clear hw w1
  go_wp2_with fail
  refine (HMIN.out _ rfl).mono ?_
  rintro e w1 ⟨rfl, hw⟩
  rw [hw]
  clear hw w1
  go_wp2_with fail
  refine (HMAX.out _ rfl).mono ?_
  rintro e w1 ⟨rfl, hw⟩
  rw [hw]
  clear hw w1
  go_wp2
  go_ret
  exact ⟨rfl, rfl⟩
set_option maxHeartbeats 1000000 in
theorem askedF (seq was shape : Int) (p : Option Addr) (n c : Nat) (many mn mx lo hi : Int) (w : World) (h1 : decide (3 < seq) = false) (h2 : (decide (was ≤ 1) && decide (shape ≤ 1)) = true) (h3 : ((n : Int) == many) = true) (h4 : decide (mn < lo) = false) (h5 : decide (hi < mx) = false) (HMIN : Hid (∀ W, W = w → Calls Try.prog 36 #[.slice p n c] W (fun e w' => e = .returned (.int .i64 mn) ∧ w' = W))) (HMAX : Hid (∀ W, W = w → Calls Try.prog 37 #[.slice p n c] W (fun e w' => e = .returned (.int .i64 mx) ∧ w' = W))) : Calls Try.prog 24 #[.int .u8 seq, .int .u8 was, .int .u8 shape, .slice p n c, .int .i64 many, .int .i64 lo, .int .i64 hi] w (RAsked 0 w) := by
  have HSH := Lib.hid (fun W => shaped_ok was shape W)
  rw [h2] at HSH
  clear h2
  unfold RAsked
  go_enter Try.func24, Try.ntmps24
  go_wp2_with fail
  refine (HSH.out _).mono ?_
  rintro e w1 ⟨rfl, hw⟩
  rw [← hw]
  clear hw w1
  go_wp2_with fail
  refine (HMIN.out _ rfl).mono ?_
  rintro e w1 ⟨rfl, hw⟩
  rw [hw]
  clear hw w1
  go_wp2_with fail
  refine (HMAX.out _ rfl).mono ?_
  rintro e w1 ⟨rfl, hw⟩
  rw [hw]
  clear hw w1
  go_wp2
  go_ret
  exact ⟨rfl, rfl⟩
theorem asked_ok (seq was shape : Int) (p : Option Addr) (c : Nat) (l : List Int) (many : Nat) (hm : 0 < many) (hl : l.length ≤ 9223372036854775807) (lo hi : Int) (w : World) (hI : IsInts w p l) : Calls Try.prog 24 #[.int .u8 seq, .int .u8 was, .int .u8 shape, .slice p l.length c, .int .i64 many, .int .i64 lo, .int .i64 hi] w (RAsked (askedE seq was shape l many lo hi) w) := by
  unfold askedE
  by_cases h1 : 3 < seq
  · rw [if_pos h1]; exact askedA seq was shape p l.length c many 0 0 lo hi w (decide_eq_true h1)
  rw [if_neg h1]
  have h1' : decide (3 < seq) = false := decide_eq_false h1
  by_cases h2 : (decide (was ≤ 1) && decide (shape ≤ 1)) = false
  · rw [if_pos h2]; exact askedB seq was shape p l.length c many 0 0 lo hi w h1' h2
  rw [if_neg h2]
  have h2' : (decide (was ≤ 1) && decide (shape ≤ 1)) = true := by simpa using h2
  by_cases h3 : l.length ≠ many
  · rw [if_pos h3]; exact askedC seq was shape p l.length c many 0 0 lo hi w h1' h2' (beq_eq_false_iff_ne.2 (by omega))
  rw [if_neg h3]
  have h3' : ((l.length : Int) == (many : Int)) = true := beq_iff_eq.2 (by omega)
  have hp : 0 < l.length := by omega
  have HMIN := Lib.hid (show ∀ W, W = w → Calls Try.prog 36 #[.slice p l.length c] W (fun e w' => e = .returned (.int .i64 (Lib.minOf l)) ∧ w' = W) from fun W hW => by subst hW; exact min_ok hI c hp hl)
  have HMAX := Lib.hid (show ∀ W, W = w → Calls Try.prog 37 #[.slice p l.length c] W (fun e w' => e = .returned (.int .i64 (Lib.maxOf l)) ∧ w' = W) from fun W hW => by subst hW; exact max_ok hI c hp hl)
  by_cases h4 : Lib.minOf l < lo
  · rw [if_pos h4]; exact askedD seq was shape p l.length c many _ 0 lo hi w h1' h2' h3' (decide_eq_true h4) HMIN
  rw [if_neg h4]
  by_cases h5 : hi < Lib.maxOf l
  · rw [if_pos h5]; exact askedE1 seq was shape p l.length c many _ _ lo hi w h1' h2' h3' (decide_eq_false h4) (decide_eq_true h5) HMIN HMAX
  rw [if_neg h5]
  exact askedF seq was shape p l.length c many _ _ lo hi w h1' h2' h3' (decide_eq_false h4) (decide_eq_false h5) HMIN HMAX
end Go.Proofs.Ytcmbbmilldhnnaa
/- Frames' windows, and what is made with them, in plain numbers. -/
set_option linter.unusedVariables false
namespace Go.Proofs.Ytcmbbmilldhnnaa

theorem hv_range (shape : Int) (short : Bool) (h : shape = 0 ∨ shape = 1) : ∀ x ∈ hvL shape short, 0 ≤ x ∧ x ≤ 4194304 := by
  intro x hx
  rw [hv_tab shape short h] at hx
  have hl : (tabL shape short).length = hvLen short := by rw [← hv_tab shape short h]; exact half_length shape short
  obtain ⟨j, hj, rfl⟩ := List.getElem_of_mem hx
  rw [hl] at hj
  have key : ∀ (l : List Int) (n : Nat) (hn : n < l.length), powOk l n = true → 0 ≤ l[n] ∧ l[n] ≤ 4194304 := by
    intro l n hn hp
    unfold powOk at hp
    rw [List.getD_eq_getElem?_getD, List.getElem?_eq_getElem hn] at hp
    simp only [Option.getD_some, Bool.and_eq_true, decide_eq_true_eq] at hp
    omega
  apply key
  rcases h with rfl | rfl <;> cases short
  · exact List.all_eq_true.1 pow_sineL j (by rw [List.mem_range]; have e1 : hvLen false = 256 := rfl; have e2 : hvLen true = 32 := rfl; omega)
  · exact List.all_eq_true.1 pow_sineS j (by rw [List.mem_range]; have e1 : hvLen false = 256 := rfl; have e2 : hvLen true = 32 := rfl; omega)
  · exact List.all_eq_true.1 pow_kbdL j (by rw [List.mem_range]; have e1 : hvLen false = 256 := rfl; have e2 : hvLen true = 32 := rfl; omega)
  · exact List.all_eq_true.1 pow_kbdS j (by rw [List.mem_range]; have e1 : hvLen false = 256 := rfl; have e2 : hvLen true = 32 := rfl; omega)
theorem win0 (was shape : Int) : winL 0 was shape = hvL was false ++ (hvL shape false).reverse := by
  simp [winL, piecesL, winK, pieceL]
theorem win1 (was shape : Int) : winL 1 was shape = hvL was false ++ (repL 4194304 ++ ((hvL shape true).reverse ++ noughtL)) := by
  simp [winL, piecesL, winK, pieceL]
theorem win3 (was shape : Int) : winL 3 was shape = noughtL ++ (hvL was true ++ (repL 4194304 ++ (hvL shape false).reverse)) := by
  simp [winL, piecesL, winK, pieceL]
theorem winL_len (seq was shape : Int) (hs : seq = 0 ∨ seq = 1 ∨ seq = 3) : (winL seq was shape).length = 512 := by
  have a := half_length was false; have b := half_length shape false; have c := half_length was true; have d := half_length shape true
  have e : hvLen false = 256 := rfl
  have f : hvLen true = 32 := rfl
  rcases hs with rfl | rfl | rfl
  · rw [win0, List.length_append, List.length_reverse]; omega
  · rw [win1]; simp only [List.length_append, List.length_reverse, repL_len, noughtL_len]; omega
  · rw [win3]; simp only [List.length_append, List.length_reverse, repL_len, noughtL_len]; omega
theorem rep_range : ∀ x ∈ repL 4194304, 0 ≤ x ∧ x ≤ 4194304 := by
  intro x hx; unfold repL at hx; rw [List.eq_of_mem_replicate hx]; omega
theorem nought_range : ∀ x ∈ noughtL, 0 ≤ x ∧ x ≤ 4194304 := by
  intro x hx; unfold noughtL at hx; rw [List.eq_of_mem_replicate hx]; omega
theorem winL_range (seq was shape : Int) (hs : seq = 0 ∨ seq = 1 ∨ seq = 3) (h0 : was = 0 ∨ was = 1) (h1 : shape = 0 ∨ shape = 1) : ∀ x ∈ winL seq was shape, 0 ≤ x ∧ x ≤ 4194304 := by
  intro x
  have a := hv_range was false h0 x; have b := hv_range shape false h1 x; have c := hv_range was true h0 x; have d := hv_range shape true h1 x
  have e := rep_range x; have f := nought_range x
  rcases hs with rfl | rfl | rfl
  · rw [win0]; simp only [List.mem_append, List.mem_reverse]; rintro (h | h); exact a h; exact b h
  · rw [win1]; simp only [List.mem_append, List.mem_reverse]; rintro (h | h | h | h); exact a h; exact e h; exact d h; exact f h
  · rw [win3]; simp only [List.mem_append, List.mem_reverse]; rintro (h | h | h | h); exact f h; exact c h; exact e h; exact b h
theorem little_len (i : Nat) (was shape : Int) : (littleL i was shape).length = 64 := by
  unfold littleL
  rw [List.length_append, List.length_reverse, half_length, half_length]; rfl
theorem little_range (i : Nat) (was shape : Int) (h0 : was = 0 ∨ was = 1) (h1 : shape = 0 ∨ shape = 1) : ∀ x ∈ littleL i was shape, 0 ≤ x ∧ x ≤ 4194304 := by
  intro x
  have b := hv_range shape true h1 x
  have a := hv_range (if i = 0 then was else shape) true (by split; exact h0; exact h1) x
  unfold littleL
  simp only [List.mem_append, List.mem_reverse]; rintro (h | h); exact a h; exact b h
/-- What a window is: where it lies, how long it is, and between what its values lie. -/
def WinFit (k : Nat) (p : Int × List Int) : Prop := (k = 0 ∧ p.1 = 0 ∧ p.2.length = 512 ∨ k < 8 ∧ p.1 = 112 + 32 * (k : Int) ∧ p.2.length = 64) ∧ ∀ x ∈ p.2, 0 ≤ x ∧ x ≤ 4194304
theorem wins_fit (seq was shape : Int) (hs : seq = 0 ∨ seq = 1 ∨ seq = 2 ∨ seq = 3) (h0 : was = 0 ∨ was = 1) (h1 : shape = 0 ∨ shape = 1) (k : Nat) (p : Int × List Int) (h : (winsL seq was shape)[k]? = some p) : WinFit k p := by
  unfold winsL at h
  by_cases h2 : seq = 2
  · rw [if_pos h2, List.getElem?_map] at h
    have hk : k < 8 := by
      rcases Nat.lt_or_ge k 8 with h' | h'
      · exact h'
      · rw [List.getElem?_eq_none (by simpa using h')] at h; cases h
    rw [List.getElem?_range hk] at h
    obtain rfl : _ = p := by simpa using h
    exact ⟨.inr ⟨hk, rfl, little_len k was shape⟩, little_range k was shape h0 h1⟩
  · rw [if_neg h2] at h
    have hs' : seq = 0 ∨ seq = 1 ∨ seq = 3 := by omega
    have hk : k = 0 := by
      rcases Nat.lt_or_ge k 1 with h' | h'
      · omega
      · rw [List.getElem?_eq_none (by simpa using h')] at h; cases h
    subst hk
    obtain rfl : _ = p := by simpa using h
    exact ⟨.inl ⟨rfl, rfl, winL_len seq was shape hs'⟩, winL_range seq was shape hs' h0 h1⟩
theorem getD_range {l : List Int} {a b : Int} (h : ∀ x ∈ l, a ≤ x ∧ x ≤ b) (ha : a ≤ 0) (hb : 0 ≤ b) (j : Nat) : a ≤ l.getD j 0 ∧ l.getD j 0 ≤ b := by
  rw [List.getD_eq_getElem?_getD]
  rcases Nat.lt_or_ge j l.length with h' | h'
  · rw [List.getElem?_eq_getElem h']; exact h _ (List.getElem_mem h')
  · rw [List.getElem?_eq_none h']; exact ⟨ha, hb⟩
/-- A window's samples, under it. -/
def cutF (pcm : List Int) (p : Int × List Int) : List Int := (pcm.drop p.1.toNat).take p.2.length
def underL (pcm : List Int) (p : Int × List Int) : List Int := timesL (cutF pcm p) p.2 14
def anaL (ws : List (Int × List Int)) (pcm : List Int) : List Int := ws.flatMap (fun p => linesF (underL pcm p))
theorem anaL_snoc (ws : List (Int × List Int)) (p : Int × List Int) (pcm : List Int) : anaL (ws ++ [p]) pcm = anaL ws pcm ++ linesF (underL pcm p) := by simp [anaL]
theorem cutF_len {pcm : List Int} {p : Int × List Int} {k : Nat} (h : WinFit k p) (hl : pcm.length = 512) : (cutF pcm p).length = p.2.length := by
  unfold cutF
  rw [List.length_take, List.length_drop]
  rcases h.1 with ⟨rfl, h1, h2⟩ | ⟨hk, h1, h2⟩ <;> omega
theorem cutF_get {pcm : List Int} {p : Int × List Int} {j : Nat} (hj : j < p.2.length) : (cutF pcm p).getD j 0 = pcm.getD (p.1.toNat + j) 0 := by
  unfold cutF
  rw [List.getD_eq_getElem?_getD, List.getD_eq_getElem?_getD, List.getElem?_take_of_lt hj, List.getElem?_drop]
theorem mul_fit {x v A : Int} (h0 : -A ≤ x) (h1 : x ≤ A) (h2 : 0 ≤ v) (h3 : v ≤ 4194304) : -(A * 4194304) ≤ x * v ∧ x * v ≤ A * 4194304 := by
  have hA : 0 ≤ A := by omega
  have a := Int.mul_le_mul_of_nonneg_right h1 h2
  have b := Int.mul_le_mul_of_nonneg_right h0 h2
  have c := Int.mul_le_mul_of_nonneg_left h3 hA
  rw [Int.neg_mul] at b
  omega
theorem rnd14 {n : Int} (h0 : -137438953472 ≤ n) (h1 : n ≤ 137438953472) : -8388608 ≤ rnd n 14 ∧ rnd n 14 ≤ 8388608 := by
  unfold rnd; rw [if_neg (by decide)]; omega
theorem under_any {pcm : List Int} {p : Int × List Int} {k : Nat} (h : WinFit k p) (hm : ∀ j, -32768 ≤ pcm.getD j 0 ∧ pcm.getD j 0 ≤ 32768) (j : Nat) : -8388608 ≤ (underL pcm p).getD j 0 ∧ (underL pcm p).getD j 0 ≤ 8388608 := by
  refine getD_range (a := -8388608) (b := 8388608) (fun x hx => ?_) (by omega) (by omega) j
  unfold underL timesL at hx
  obtain ⟨i, hi, rfl⟩ := List.mem_map.1 hx
  unfold timeV
  have hi' := List.mem_range.1 hi
  have a : -32768 ≤ (cutF pcm p).getD i 0 ∧ (cutF pcm p).getD i 0 ≤ 32768 := by
    refine getD_range (fun y hy => ?_) (by omega) (by omega) i
    unfold cutF at hy
    have hy' := List.mem_of_mem_drop (List.mem_of_mem_take hy)
    obtain ⟨n, hn, rfl⟩ := List.getElem_of_mem hy'
    have := hm n
    rw [List.getD_eq_getElem?_getD, List.getElem?_eq_getElem hn] at this
    exact this
  have b := getD_range h.2 (by omega) (by omega) i
  have c := mul_fit a.1 a.2 b.1 b.2
  exact rnd14 (by omega) (by omega)
end Go.Proofs.Ytcmbbmilldhnnaa
/- block.Analyse: what each call answers. -/
set_option linter.unusedVariables false
namespace Go.Proofs.Ytcmbbmilldhnnaa
open Go.ChangeShapes Go.WideShapes Go.ChangeAt Go.RowKit
attribute [local go_sem] Oper.semAt_some

/-- Whatever lay below M lies as it lay, but for block B. -/
structure Still (B M : Nat) (w w' : World) : Prop where
  os : w'.os = w.os
  tape : w'.tape = w.tape
  output : w'.output = w.output
  size : w.heap.size ≤ w'.heap.size
  block : ∀ k, k < M → k ≠ B → w'.heap[k]? = w.heap[k]?
theorem Still.of {B M : Nat} {w w' : World} (h : Below M w w') : Still B M w w' := ⟨h.os, h.tape, h.output, h.size, fun k hk _ => h.block k hk⟩
theorem Still.trans {B M : Nat} {x y z : World} (h : Still B M x y) (k : Still B M y z) : Still B M x z :=
  ⟨k.os.trans h.os, k.tape.trans h.tape, k.output.trans h.output, Nat.le_trans h.size k.size, fun i hi hn => (k.block i hi hn).trans (h.block i hi hn)⟩
theorem Still.set {B M : Nat} (w : World) (i : Nat) (v : Value) : Still B M w (w.setCell ⟨B, i, none⟩ v) := ⟨rfl, rfl, rfl, by simp [World.setCell], fun k _ hk => Below.heap_setCell _ _ _ _ hk⟩
theorem Still.boxed {B M b : Nat} {w w' : World} {t : TypeId} {v : Value} (h : Still B M w w') (hb : Boxed w b t v) (h1 : b < M) (h2 : b ≠ B) : Boxed w' b t v := (h.block b h1 h2).trans hb
theorem Still.below {B M n : Nat} {w0 w w' : World} (h : Still B M w w') (hb : Below n w0 w) (h1 : n ≤ M) (h2 : n ≤ B) : Below n w0 w' := hb.trans ⟨h.os, h.tape, h.output, h.size, fun k hk => h.block k (by omega) (by omega)⟩
theorem Apart.boxed {L b : Nat} {w w' : World} {t : TypeId} {v : Value} (h : Apart L w w') (hb : Boxed w b t v) (h1 : b < L) : Boxed w' b t v := (h.block b hb.lt (by omega) (by omega)).trans hb
theorem owns_away {L : Nat} {w w' : World} {base : Nat} {e : TypeId} {size : Nat} {v : Value} {n : Nat} {xs : List Value} (h : w.ownsRow base e size v n xs) (ha : Apart L w w') (hb : L + 2 ≤ base) : w'.ownsRow base e size v n xs := by
  refine ⟨h.1, ?_⟩
  rcases h.2 with hn | ⟨g, cap, cur, rfl, hg, hgg, rest⟩
  · exact .inl hn
  · exact .inr ⟨g, cap, cur, rfl, hg, (ha.block g (Array.getElem?_eq_some_iff.1 hgg).1 (by omega) (by omega)).trans hgg, rest⟩
theorem box_new (w : World) (t : TypeId) (v : Value) {b : Nat} (hb : w.heap.size = b) : Boxed (w.alloc (.cells #[v] t)) b t v := by subst hb; exact Boxed.new w t v
/-- A row of the call's own, and another behind it, in a round. -/
theorem appendIn_row {F : Fence} {n : Nat} {w : World} {ops : Array Oper} {rest : List Oper} {o : Oper} {a : Act} {Q : Exit → Act → World → Prop} (hgd : o.guard = none) (s x : Operand)
    (ho : o.op = .call { callee := .builtin .append, args := #[s, x], argTypes := #[22, 22] })
    (base : Nat) (v : Value) (L0 : List Int) (hs : a.eval s = v) (hown : w.ownsRow base 3 1 v L0.length (L0.map (Value.int .i64)))
    (p : Addr) (m c : Nat) (l : List Int) (hx : a.eval x = .slice (some p) m c) (hI : IsInts w (some p) l) (hm : l.length = m) (hp : 0 < l.length) (hL0 : L0.length ≤ 4096) (hl : l.length ≤ 4096) (hbase : base ≤ w.heap.size)
    (h : ∀ g' c' w', g' < w'.heap.size → base ≤ g' → w'.ownsRow base 3 1 (.slice (some ⟨g', 0, none⟩) (L0 ++ l).length c') (L0 ++ l).length ((L0 ++ l).map (Value.int .i64)) → Below base w w' → wpListIn F n Try.prog ops Q rest (a.put o.dst (.slice (some ⟨g', 0, none⟩) (L0 ++ l).length c')) w') : wpListIn F n Try.prog ops Q (o :: rest) a w := by
  obtain ⟨i0, hi, hz0, hz1, hz2⟩ := info_parts Try.infoInt
  have hl0 := hown.lt
  refine wpListIn_append_own w hgd s x _ ho base 3 i0 (.int .i64 0) 1 8 Try.underlying22 hi hz0 hz1 hz2 rfl (by decide) v L0.length (L0.map (Value.int .i64)) hs hown p m c (l.map (Value.int .i64)) hx (by simp [hm]) ?_ (by simp [Value.oneCell']) (by unfold maxLen; omega) (by omega) hbase ?_
  · intro j u hu
    have hj : j < l.length := by
      rcases Nat.lt_or_ge j l.length with h | h
      · exact h
      · rw [List.getElem?_eq_none (by simp; omega)] at hu; cases hu
    obtain ⟨b, off, hpp, _, hc⟩ := hI.at hj
    obtain rfl : p = ⟨b, off, none⟩ := by simpa using hpp
    rw [Addr.add_lit, hc j hj]
    rw [row_get l j (Nat.zero_le _) hj] at hu
    exact hu
  · intro v' w' r1 r2 _
    have r1' : w'.ownsRow base 3 1 v' (L0 ++ l).length ((L0 ++ l).map (Value.int .i64)) := by
      rw [List.length_append, List.map_append, hm]; exact r1
    obtain ⟨g', cap, rfl, hg, hlt, hc⟩ := owns_at r1' (by intro e; have := congrArg List.length e; rw [List.length_append] at this; simp only [List.length_nil] at this; omega)
    exact h g' cap w' hlt hg r1' ((Below.refl base w).grown r2 hbase (fun j hj => (hl0 j hj).1))
theorem ints_cut {w : World} {b off : Nat} {l : List Int} (h : IsInts w (some ⟨b, off, none⟩) l) (at_ n : Nat) : IsInts w (some ⟨b, off + at_, none⟩) ((l.drop at_).take n) := by
  rcases h with h | ⟨b', off', hp, hlt, hc⟩
  · subst h; exact .inl (by simp)
  · obtain ⟨rfl, rfl⟩ : b = b' ∧ off = off' := by simpa using hp
    refine .inr ⟨b, off + at_, rfl, hlt, fun j hj => ?_⟩
    rw [List.length_take, List.length_drop] at hj
    rw [Nat.add_assoc, hc (at_ + j) (by omega)]
    congr 2
    rw [List.getD_eq_getElem?_getD, List.getD_eq_getElem?_getD, List.getElem?_take_of_lt (by omega), List.getElem?_drop]
def keyW (x : WinX) : Int × List Int := (x.pos, x.l)
theorem anaL_len (pcm : List Int) (hl : pcm.length = 512) : ∀ ws : List (Int × List Int), (anaL ws pcm).length ≤ 256 * ws.length
  | [] => by simp [anaL]
  | p :: ws => by
    have ih := anaL_len pcm hl ws
    have e : (underL pcm p).length ≤ 512 := by unfold underL; rw [timesL_len]; unfold cutF; rw [List.length_take, List.length_drop]; omega
    simp only [anaL, List.flatMap_cons, List.length_append, List.length_cons, linesF, List.length_map, List.length_range] at *
    omega
def IAna (w : World) (pv : Value) (pcm : List Int) (pre : List WinX) (W : World) : Prop :=
  Boxed W w.heap.size 22 pv ∧ Boxed W (w.heap.size + 2) 26 (.int .i64 0) ∧ Below w.heap.size w W ∧
  ∃ v, Boxed W (w.heap.size + 1) 22 v ∧ W.ownsRow (w.heap.size + 8) 3 1 v (anaL (pre.map keyW) pcm).length ((anaL (pre.map keyW) pcm).map (Value.int .i64))
theorem IAna.apart {w : World} {pv : Value} {pcm : List Int} (pre : List WinX) (A B : World) (h : IAna w pv pcm pre A) (ha : Apart (w.heap.size + 6) A B) (hs : w.heap.size + 6 ≤ A.heap.size) : IAna w pv pcm pre B := by
  obtain ⟨h1, h2, h3, v, h4, h5⟩ := h
  exact ⟨ha.boxed h1 (by omega), ha.boxed h2 (by omega), ha.below h3 (by omega) (by omega), v, ha.boxed h4 (by omega), owns_away h5 ha (by omega)⟩
set_option maxRecDepth 100000 in
set_option maxHeartbeats 4000000 in
theorem ana_ok (seq was shape : Int) (hs : seq = 0 ∨ seq = 1 ∨ seq = 2 ∨ seq = 3) (h0 : was = 0 ∨ was = 1) (h1 : shape = 0 ∨ shape = 1) (pcm : List Int) (hl : pcm.length = 512) (hm : ∀ j, -32768 ≤ pcm.getD j 0 ∧ pcm.getD j 0 ≤ 32767)
    (p : Option Addr) (c : Nat) (hc : 512 ≤ c) (w : World) (hI : IsInts w p pcm) (hA : askedE seq was shape pcm 512 (-32768) 32767 = 0) :
    Calls Try.prog 12 #[.int .u8 seq, .int .u8 was, .int .u8 shape, .slice p 512 c] w (RRowE (anaL (winsL seq was shape) pcm, 0) w) := by
  obtain ⟨pb, off, rfl, hpb, _⟩ := hI.at (j := 0) (by omega)
  have HAS := Lib.hid (show ∀ W, IsInts W (some ⟨pb, off, none⟩) pcm → Calls Try.prog 24 #[.int .u8 seq, .int .u8 was, .int .u8 shape, .slice (some ⟨pb, off, none⟩) 512 c, .int .i64 512, .int .i64 (-32768), .int .i64 32767] W (RAsked 0 W) from fun W hW => by
    have := asked_ok seq was shape (some ⟨pb, off, none⟩) c pcm 512 (by omega) (by omega) (-32768) 32767 W hW
    rw [hl, hA] at this
    exact this)
  unfold RAsked at HAS
  have HIB := Lib.hid hI.inB
  have HM := Lib.hid hm
  have HL := Lib.hid hl
  refine (callsIn_wide (n := 3)).1 ?_
  refine callsIn_of_wp_marks Try.func12 rfl trivial ?_ rfl
  simp only [Try.ntmps12, List.size_toArray, List.length_cons, List.length_nil, Nat.reduceAdd, Nat.reduceSub, Array.replicate_succ, Array.replicate_zero, List.push_toArray, List.append_toArray, List.nil_append, List.cons_append]
  gi_wp2_with fail
  refine ⟨trivial, ?_⟩
  refine (callsIn_wide.2 (HAS.out _ ?_)).mono ?_
  · exact HIB.out.ints.keep ((((Below.refl _ w).alloc (Nat.le_refl _) _).alloc (by simp) _).alloc (by simp; omega) _)
  rintro e w1 ⟨rfl, hw⟩
  rw [← hw]
  clear hw w1
  gi_wp2_with fail
  refine ⟨trivial, ?_⟩
  refine (callsIn_wide.2 (windows_ok seq was shape _)).mono ?_
  rintro e w1 ⟨rfl, rfl⟩
  simp only [World.size_alloc, windowsV]
  obtain ⟨W0, hW0⟩ : ∃ W0, (((((w.alloc (.cells #[.slice (some ⟨pb, off, none⟩) 512 c] 22)).alloc (.cells #[.slice none 0 0] 22)).alloc (.cells #[.int .i64 0] 26)).alloc (.cells #[.int .u8 seq] 5)).alloc (.cells #[.int .u8 was] 5)).alloc (.cells #[.int .u8 shape] 5) = W0 := ⟨_, rfl⟩
  have hsz : W0.heap.size = w.heap.size + 6 := by rw [← hW0]; simp
  have hB0 : Below w.heap.size w W0 := by rw [← hW0]; exact ((((((Below.refl _ w).alloc (Nat.le_refl _) _).alloc (by simp) _).alloc (by simp; omega) _).alloc (by simp; omega) _).alloc (by simp; omega) _).alloc (by simp; omega) _
  have hb7 : Boxed W0 w.heap.size 22 (.slice (some ⟨pb, off, none⟩) 512 c) := by rw [← hW0]; exact (((((box_new w _ _ rfl).alloc _).alloc _).alloc _).alloc _).alloc _
  have hb8 : Boxed W0 (w.heap.size + 1) 22 (.slice none 0 0) := by rw [← hW0]; exact ((((box_new _ _ _ (by simp)).alloc _).alloc _).alloc _).alloc _
  have hb9 : Boxed W0 (w.heap.size + 2) 26 (.int .i64 0) := by rw [← hW0]; exact (((box_new _ _ _ (by simp)).alloc _).alloc _).alloc _
  have hba : Boxed W0 (w.heap.size + 3) 5 (.int .u8 seq) := by rw [← hW0]; exact ((box_new _ _ _ (by simp)).alloc _).alloc _
  have hbb : Boxed W0 (w.heap.size + 4) 5 (.int .u8 was) := by rw [← hW0]; exact (box_new _ _ _ (by simp)).alloc _
  have hbc : Boxed W0 (w.heap.size + 5) 5 (.int .u8 shape) := by rw [← hW0]; exact box_new _ _ _ (by simp)
  gi_wp2_with fail
  rw [hW0]
  clear hW0
  have hseq : SeqAll Try.prog 38 #[.pointer (some ⟨w.heap.size + 3, 0, none⟩), .pointer (some ⟨w.heap.size + 3 + 1, 0, none⟩), .pointer (some ⟨w.heap.size + 3 + 2, 0, none⟩)] encW (PxW seq was shape W0.heap.size) (SW seq was shape) (KW (w.heap.size + 3)) W0 := by
    by_cases h2 : seq = 2
    · subst h2; exact windows_all2 was shape h0 h1 W0 (w.heap.size + 3) (by omega) hba.cell hbb.cell hbc.cell
    · exact windows_all1 seq was shape (by omega) h0 h1 W0 (w.heap.size + 3) (by omega) hba.cell hbb.cell hbc.cell
  have HWF := Lib.hid (fun k p => wins_fit seq was shape hs h0 h1 k p)
  have HPX := Lib.hid (fun s x A B => PxW.apart (seq := seq) (was := was) (shape := shape) (L := W0.heap.size) s x A B)
  unfold PxW at HPX
  unfold SW PxW at hseq
  generalize winsL seq was shape = ws at *
  clear hs h0 h1 hA HAS hba hbb hbc hm
  refine range_all (gf := 38) (lb := #[.pointer (some ⟨w.heap.size + 3, 0, none⟩), .pointer (some ⟨w.heap.size + 3 + 1, 0, none⟩), .pointer (some ⟨w.heap.size + 3 + 2, 0, none⟩)]) rfl (enters_of Try.func38 (by kernel_rfl) rfl) hseq
    ?hK (fun _ => rfl) (IAna w (.slice (some ⟨pb, off, none⟩) 512 c) pcm) ?hI ?hPx ?h0 ?hround ?hdone
  case hK =>
    intro A A' B B' g1 g2 g k k1 k2
    exact (g2 k (by omega)).trans ((g k k1 k2).trans (g1 k (by omega)))
  case hI =>
    intro s A B hi hz ha
    exact hi.apart s A B (by rw [← hsz]; exact ha) (by omega)
  case hPx =>
    intro s x A B hx hz ha
    exact HPX.out s x A B hx hz ha
  case h0 => exact ⟨hb7, hb9, hB0, _, hb8, World.ownsRow_nil _ _ _ _⟩
  case hround =>
    rintro l pre x W W2 hA2 ⟨k7, k9, kB, v, k8, hown⟩ ⟨hx1, hx2, hx3, hx4⟩ K' hK'
    have HK := Lib.hid hK'
    clear hK'
    gi_wp2
    refine HK.out _ ?_
    clear HK K'
    have hf := HWF.out _ _ hx1
    have HR := Lib.hid hown
    have HX4 := Lib.hid hx4
    obtain ⟨at_, hat⟩ : ∃ a : Nat, x.pos = (a : Int) := ⟨x.pos.toNat, by rcases hf.1 with ⟨_, h1, _⟩ | ⟨_, h1, _⟩ <;> (simp only at h1; omega)⟩
    obtain ⟨m, hm⟩ : ∃ m, x.l.length = m := ⟨_, rfl⟩
    have hq : at_ + m ≤ 512 ∧ (m = 512 ∨ m = 64) := by
      rcases hf.1 with ⟨_, h1, h2⟩ | ⟨_, h1, h2⟩ <;> (simp only at h1 h2; omega)
    have hcl : (cutF pcm (keyW x)).length = m := by rw [← hm]; exact cutF_len hf HL.out
    have hcut : cutF pcm (keyW x) = (pcm.drop at_).take m := by unfold cutF keyW; simp only; rw [hat, hm]; rfl
    have hP2 : IsInts W2 (some ⟨pb, off + at_, none⟩) (cutF pcm (keyW x)) := by rw [hcut]; exact ints_cut (HIB.out.keep kB (Nat.le_refl _)).ints at_ m
    have HT := Lib.hid (show Calls Try.prog 27 #[.slice (some ⟨pb, off + at_, none⟩) m (c - at_), .slice (some ⟨x.b, 0, none⟩) m x.c, .int .i64 14] W2 (RRowF (underL pcm (keyW x)) W2) by
      have h := times_ok (cutF pcm (keyW x)) x.l 14 (by omega) (some ⟨pb, off + at_, none⟩) (some ⟨x.b, 0, none⟩) (c - at_) x.c m W2 hP2 HX4.out hm (by omega) (by omega) (fun j hj => by
        have a := HM.out (at_ + j)
        have e : (cutF pcm (keyW x)).getD j 0 = pcm.getD (at_ + j) 0 := by rw [cutF_get (by show j < x.l.length; omega)]; unfold keyW; simp only; rw [hat]; rfl
        have b := getD_range hf.2 (by omega) (by omega) j
        rw [e]
        have := mul_fit (x := pcm.getD (at_ + j) 0) (v := x.l.getD j 0) (A := 32768) (by omega) (by omega) b.1 b.2
        omega)
      rw [hcl] at h
      exact h)
    have hul : (underL pcm (keyW x)).length = m := by unfold underL; rw [timesL_len]; exact hcl
    have HFW := Lib.hid (fun (z : List Int) (g : Nat) (W : World) (hz : z = underL pcm (keyW x)) (hI : IsInts W (some ⟨g, 0, none⟩) z) => show Calls Try.prog 26 #[.slice (some ⟨g, 0, none⟩) m m] W (RRowE (linesF (underL pcm (keyW x)), 0) W) by
      have h := fwd_any z (some ⟨g, 0, none⟩) m (by rw [hz, hul]; omega) W hI
      have e : fwdN z = (linesF z, 0) := by
        unfold fwdN
        rw [if_neg (by rw [hz, hul]; omega), if_neg]
        intro ho
        obtain ⟨y, hy, hyo⟩ := List.any_eq_true.1 ho
        obtain ⟨i, hi, rfl⟩ := List.getElem_of_mem hy
        have r := under_any hf (fun j => ⟨(HM.out j).1, by have := (HM.out j).2; omega⟩) i (pcm := pcm)
        rw [show (x.pos, x.l) = keyW x from rfl, ← hz, List.getD_eq_getElem?_getD, List.getElem?_eq_getElem hi] at r
        simp only [Option.getD_some] at r
        unfold oddP at hyo
        simp only [Bool.or_eq_true, decide_eq_true_eq] at hyo
        omega
      rw [e, hz, hul] at h
      exact h)
    dsimp only [encW]
    rw [hat, hm]
    have hc7 := k7.cell
    have hc8 := k8.cell
    have hf8 := k8.frozen
    obtain ⟨m0, m1⟩ := hq
    have hw1 : IntKind.i64.wrap ((at_ : Int) + (m : Int)) = at_ + m := by rw [IntKind.wrap_i64]; omega
    have hLn : (linesF (underL pcm (keyW x))).length = m / 2 := by unfold linesF; rw [List.length_map, List.length_range, hul]
    have HSN := Lib.hid (show anaL ((pre ++ [x]).map keyW) pcm = anaL (pre.map keyW) pcm ++ linesF (underL pcm (keyW x)) by rw [List.map_append]; exact anaL_snoc _ _ _)
    have hLa := anaL_len pcm HL.out (pre.map keyW)
    rw [List.length_map] at hLa
    have hp8 : pre.length < 8 := by rcases hf.1 with ⟨h, _⟩ | ⟨h, _⟩ <;> omega
    unfold RRowF at HT
    rw [hul] at HT
    unfold RRowE at HFW
    dsimp only at HFW
    obtain ⟨U, hU⟩ : ∃ U, underL pcm (keyW x) = U := ⟨_, rfl⟩
    rw [hU] at HT HFW HSN hLn hul
    obtain ⟨LF, hLF⟩ : ∃ LF, linesF U = LF := ⟨_, rfl⟩
    rw [hLF] at HFW HSN hLn
    obtain ⟨L0, hL0⟩ : ∃ L0, anaL (pre.map keyW) pcm = L0 := ⟨_, rfl⟩
    rw [hL0] at HSN hLa HR
    have HUL := Lib.hid hul
    have HLN := Lib.hid hLn
    clear hown hx4 hP2 hU hLF hL0 hul hLn
    gi_wp2_with fail
    refine ⟨trivial, ?_⟩
    refine (CallsIn.inRound l (callsIn_wide.2 HT.out)).mono ?_
    rintro e W3 ⟨g3, rfl, hO3, hg3, hlt3, hB3⟩
    have HI3 := Lib.hid (full_ints hO3 HUL.out hlt3)
    clear hO3 HT
    gi_wp2_with fail
    refine ⟨trivial, ?_⟩
    refine (CallsIn.inRound l (callsIn_wide.2 (HFW.out _ g3 W3 rfl HI3.out))).mono ?_
    rintro e W4 ⟨v4, rfl, hO4, hB4⟩
    obtain ⟨g4, cap4, rfl, hg4, hlt4, hc4⟩ := owns_at hO4 (by intro e; have := HLN.out; rw [e] at this; simp only [List.length_nil] at this; omega)
    have HI4 := Lib.hid (isInts_of hlt4 hc4)
    have hz3 := hB3.size
    have hz4 := hB4.size
    have hB34 : Below W2.heap.size W2 W4 := hB3.trans (hB4.mono hz3)
    have HR4 := Lib.hid (owns_keep HR.out hB34)
    have hc8' := (hB34.cell (p := ⟨w.heap.size + 1, 0, none⟩) (by show w.heap.size + 1 < _; omega)).trans hc8
    have hbx := Lib.hid (show Boxed W4 (w.heap.size + 1) 22 v from (hB34.block (w.heap.size + 1) (by omega)).trans k8)
    have HB34 := Lib.hid hB34
    clear hO4 hc4 HR hc8 hf8 HFW hB34
    gi_wp2_with (gi_at_builtin; refine appendIn_row rfl (.tmp 45) (.tmp 46) rfl (w.heap.size + 8) v L0 rfl HR4.out ⟨g4, 0, none⟩ LF.length cap4 LF rfl HI4.out rfl (by rw [HLN.out]; omega) (by omega) (by rw [HLN.out]; omega) (by omega) ?_; intro g5 c5 W5 hlt5 hg5 hO5 hB5; have hx5 : Boxed W5 (w.heap.size + 1) 22 v := (hB5.block (w.heap.size + 1) (by omega)).trans hbx.out; have hc5 := hx5.cell; have hf5 := hx5.frozen)
    have hz5 := hB5.size
    rw [List.length_append] at hO5
    have hS : Still (w.heap.size + 1) (w.heap.size + 8) W2 (W5.setCell ⟨w.heap.size + 1, 0, none⟩ (.slice (some ⟨g5, 0, none⟩) (L0.length + LF.length) c5)) := ((Still.of (HB34.out.mono (by omega))).trans (Still.of hB5)).trans (Still.set _ _ _)
    refine ⟨⟨hS.size, hS.block _ (by omega) (by omega), hS.block _ (by omega) (by omega)⟩, fun k k1 k2 => hS.block k (by omega) (by omega), hS.boxed k7 (by omega) (by omega), hS.boxed k9 (by omega) (by omega), hS.below kB (by omega) (by omega), _, hx5.set _, ?_⟩
    rw [HSN.out, List.length_append]
    exact hO5.kept (grownBy_setCell' W5 _ _) (.inr (by simp [Value.ownBlock]; omega))
  case hdone =>
    rintro xs W hz hS ⟨k7, k9, kB, v, k8, hown⟩ hK
    have e1 : xs.map keyW = ws := hS
    rw [e1] at hown
    obtain ⟨p5, cap5, rfl, hI5⟩ := owns_any hown
    have HO := Lib.hid hown
    have hc8 := k8.cell
    have hc9 := k9.cell
    have hf8 := k8.frozen
    have hf9 := k9.frozen
    generalize anaL ws pcm = LL at *
    clear hown hI5
    gi_wp2
    rw [hsz] at hK hz
    obtain ⟨W8, hW8⟩ : ∃ W8, (W.setCell ⟨w.heap.size + 1, 0, none⟩ (.slice p5 LL.length cap5)).setCell ⟨w.heap.size + 1 + 1, 0, none⟩ (.int .i64 0) = W8 := ⟨_, rfl⟩
    have j8 : Boxed W8 (w.heap.size + 1) 22 (.slice p5 LL.length cap5) := by rw [← hW8]; exact (k8.set _).other (by omega) _
    have j9 : Boxed W8 (w.heap.size + 2) 26 (.int .i64 0) := by rw [← hW8]; exact (k9.other (by omega) _).set _
    have hK8 : W8.heap[w.heap.size + 6]? = some (.deferred (some [])) := by
      rw [← hW8]
      exact (Below.heap_setCell _ _ _ _ (by show _ ≠ w.heap.size + 1 + 1; omega)).trans ((Below.heap_setCell _ _ _ _ (by show _ ≠ w.heap.size + 1; omega)).trans hK)
    have hB8 : Below w.heap.size w W8 := by rw [← hW8]; exact (kB.setCell (p := ⟨w.heap.size + 1, 0, none⟩) (by show _ ≤ w.heap.size + 1; omega) _).setCell (p := ⟨w.heap.size + 1 + 1, 0, none⟩) (by show _ ≤ w.heap.size + 1 + 1; omega) _
    have hO8 : W8.ownsRow (w.heap.size + 8) 3 1 (.slice p5 LL.length cap5) LL.length (LL.map (Value.int .i64)) := by
      rw [← hW8]
      have hne : ∀ j, j < w.heap.size + 8 → some j ≠ (Value.slice p5 LL.length cap5).ownBlock := by
        intro j hj e
        have := (HO.out.lt j e.symm).1
        omega
      exact (HO.out.kept (grownBy_setCell' _ _ _) (.inr (fun e => hne _ (by omega) e.symm))).kept (grownBy_setCell' _ _ _) (.inr (fun e => hne _ (by omega) e.symm))
    rw [hW8, hsz]
    clear hW8 HO hf8 hf9 hc8 hc9
    refine ⟨by simp, .inl ⟨_, _, rfl, run_takeDeferred hK8, ?_⟩⟩
    have q8 := (j8.kept (grownBy_putObj' W8 (w.heap.size + 6) (.deferred none)) (by simp)).cell
    have q9 := (j9.kept (grownBy_putObj' W8 (w.heap.size + 6) (.deferred none)) (by simp)).cell
    refine ⟨.tuple #[.slice p5 LL.length cap5, .int .i64 0], ?_, _, rfl, ?_, hB8.trans (belowK_b (w := w) (Nat.le_refl _) W8 (w.heap.size + 6) _ _ (by omega) hK8 rfl rfl)⟩
    · simp [results, Try.f12, go_sem, q8, q9]
    · exact ownsRow_putObj (owns_lower hO8 (by omega)) _ hK8 rfl
end Go.Proofs.Ytcmbbmilldhnnaa
/- What is synthesised, in plain numbers. -/
set_option linter.unusedVariables false
namespace Go.Proofs.Ytcmbbmilldhnnaa

theorem lineF_fit (M : Nat) (h : M = 256 ∨ M = 32) (z : List Int) (hz : z.length = 2 * M) (hm : ∀ j, j < z.length → -8388608 ≤ z.getD j 0 ∧ z.getD j 0 ≤ 8388608) (k : Nat) : -33554433 ≤ lineF M z k ∧ lineF M z k ≤ 33554433 := by
  have s := sumX_range z (ffA M k) (ffB M k) 8388608 hm z.length (Nat.le_refl _)
  have e := rnd_spec (sumX z (ffA M k) (ffB M k) z.length) 33 (by decide)
  unfold lineF
  generalize sumX z (ffA M k) (ffB M k) z.length = S at *
  simp at e
  omega
theorem lineI_fit (M : Nat) (h : M = 256 ∨ M = 32) (x : List Int) (hx : x.length = M) (hm : ∀ j, j < x.length → -268435455 ≤ x.getD j 0 ∧ x.getD j 0 ≤ 268435455) (n : Nat) : -68719476736 ≤ lineI M x n ∧ lineI M x n ≤ 68719476736 := by
  have s := sumX_range x (fiA M n) (fiB M n) 268435455 hm x.length (Nat.le_refl _)
  unfold lineI
  generalize sumX x (fiA M n) (fiB M n) x.length = S at *
  rcases h with rfl | rfl
  · have e := rnd_spec S 26 (by decide)
    simp at e ⊢
    omega
  · have e := rnd_spec S 23 (by decide)
    simp at e ⊢
    omega
/-- A window's numbers, of its lines. -/
def partS (p : Int × List Int) (y : List Int) : List Int := timesL (linesI y) p.2 26
/-- What a window adds at a place. -/
def addS (p : Int × List Int) (y : List Int) (n : Nat) : Int := if p.1.toNat ≤ n ∧ n < p.1.toNat + p.2.length then (partS p y).getD (n - p.1.toNat) 0 else 0
def stepS (st : (Nat → Int) × List Int) (p : Int × List Int) : (Nat → Int) × List Int := (fun n => st.1 n + addS p (st.2.take (p.2.length / 2)) n, st.2.drop (p.2.length / 2))
def synP (ws : List (Int × List Int)) (lines : List Int) : (Nat → Int) × List Int := ws.foldl stepS (fun _ => 0, lines)
def synL (ws : List (Int × List Int)) (lines : List Int) : List Int := (List.range 512).map (synP ws lines).1
theorem synP_snoc (ws : List (Int × List Int)) (p : Int × List Int) (lines : List Int) : synP (ws ++ [p]) lines = stepS (synP ws lines) p := by simp [synP]
theorem rnd26 {n : Int} (h0 : -288230376151711744 ≤ n) (h1 : n ≤ 288230376151711744) : -4294967296 ≤ rnd n 26 ∧ rnd n 26 ≤ 4294967296 := by
  unfold rnd; rw [if_neg (by decide)]; omega
theorem linesI_len (y : List Int) : (linesI y).length = 2 * y.length := by unfold linesI; simp
theorem part_len (p : Int × List Int) (y : List Int) : (partS p y).length = 2 * y.length := by unfold partS; rw [timesL_len, linesI_len]
theorem linesI_any {y : List Int} (hy : y.length = 256 ∨ y.length = 32) (hm : ∀ j, -268435455 ≤ y.getD j 0 ∧ y.getD j 0 ≤ 268435455) (j : Nat) : -68719476736 ≤ (linesI y).getD j 0 ∧ (linesI y).getD j 0 ≤ 68719476736 := by
  refine getD_range (fun x hx => ?_) (by omega) (by omega) j
  unfold linesI at hx
  obtain ⟨i, _, rfl⟩ := List.mem_map.1 hx
  exact lineI_fit y.length hy y rfl (fun j _ => hm j) i
theorem part_any {p : Int × List Int} {k : Nat} (h : WinFit k p) {y : List Int} (hy : y.length = 256 ∨ y.length = 32) (hm : ∀ j, -268435455 ≤ y.getD j 0 ∧ y.getD j 0 ≤ 268435455) (j : Nat) : -4294967296 ≤ (partS p y).getD j 0 ∧ (partS p y).getD j 0 ≤ 4294967296 := by
  refine getD_range (fun x hx => ?_) (by omega) (by omega) j
  unfold partS timesL at hx
  obtain ⟨i, _, rfl⟩ := List.mem_map.1 hx
  unfold timeV
  have a := linesI_any hy hm i
  have b := getD_range h.2 (by omega) (by omega) i
  have c := mul_fit a.1 a.2 b.1 b.2
  exact rnd26 (by omega) (by omega)
theorem add_any {p : Int × List Int} {k : Nat} (h : WinFit k p) {y : List Int} (hy : y.length = 256 ∨ y.length = 32) (hm : ∀ j, -268435455 ≤ y.getD j 0 ∧ y.getD j 0 ≤ 268435455) (n : Nat) : -4294967296 ≤ addS p y n ∧ addS p y n ≤ 4294967296 := by
  unfold addS
  split
  · exact part_any h hy hm _
  · omega
theorem getD_take_drop (l : List Int) (a n : Nat) (h : ∀ j, -268435455 ≤ l.getD j 0 ∧ l.getD j 0 ≤ 268435455) (j : Nat) : -268435455 ≤ ((l.drop a).take n).getD j 0 ∧ ((l.drop a).take n).getD j 0 ≤ 268435455 := by
  refine getD_range (fun x hx => ?_) (by omega) (by omega) j
  obtain ⟨i, hi, rfl⟩ := List.getElem_of_mem (List.mem_of_mem_drop (List.mem_of_mem_take hx))
  have := h i
  rw [List.getD_eq_getElem?_getD, List.getElem?_eq_getElem hi] at this
  exact this
theorem wins_uni (seq was shape : Int) (hs : seq = 0 ∨ seq = 1 ∨ seq = 2 ∨ seq = 3) (h0 : was = 0 ∨ was = 1) (h1 : shape = 0 ∨ shape = 1) : ∃ H, (H = 256 ∨ H = 32) ∧ ∀ (k : Nat) (p : Int × List Int), (winsL seq was shape)[k]? = some p → WinFit k p ∧ p.2.length = 2 * H ∧ H * (k + 1) ≤ 256 := by
  by_cases h2 : seq = 2
  · refine ⟨32, .inr rfl, fun k p h => ?_⟩
    have hf := wins_fit seq was shape hs h0 h1 k p h
    unfold winsL at h
    rw [if_pos h2, List.getElem?_map] at h
    have hk : k < 8 := by
      rcases Nat.lt_or_ge k 8 with h' | h'
      · exact h'
      · rw [List.getElem?_eq_none (by simpa using h')] at h; cases h
    rw [List.getElem?_range hk] at h
    obtain rfl : _ = p := by simpa using h
    exact ⟨hf, by show (littleL k was shape).length = _; rw [little_len], by omega⟩
  · refine ⟨256, .inl rfl, fun k p h => ?_⟩
    have hf := wins_fit seq was shape hs h0 h1 k p h
    unfold winsL at h
    rw [if_neg h2] at h
    have hk : k = 0 := by
      rcases Nat.lt_or_ge k 1 with h' | h'
      · omega
      · rw [List.getElem?_eq_none (by simpa using h')] at h; cases h
    subst hk
    obtain rfl : _ = p := by simpa using h
    exact ⟨hf, winL_len seq was shape (by omega), by omega⟩
/-- A step's fit. -/
theorem stepS_fit {p : Int × List Int} {k H : Nat} (hf : WinFit k p) (hH : H = 256 ∨ H = 32) (hp : p.2.length = 2 * H) (hk : H * (k + 1) ≤ 256) {lines : List Int} (hl : lines.length = 256) (hm : ∀ j, -268435455 ≤ lines.getD j 0 ∧ lines.getD j 0 ≤ 268435455)
    {st : (Nat → Int) × List Int} (hr : st.2 = lines.drop (H * k)) (hb : ∀ n, -(4294967296 * (k : Int)) ≤ st.1 n ∧ st.1 n ≤ 4294967296 * (k : Int)) :
    (stepS st p).2 = lines.drop (H * (k + 1)) ∧ ∀ n, -(4294967296 * ((k + 1 : Nat) : Int)) ≤ (stepS st p).1 n ∧ (stepS st p).1 n ≤ 4294967296 * ((k + 1 : Nat) : Int) := by
  have e : p.2.length / 2 = H := by omega
  refine ⟨?_, fun n => ?_⟩
  · unfold stepS
    simp only
    rw [hr, List.drop_drop, e, Nat.mul_add, Nat.mul_one]
  · unfold stepS
    simp only
    rw [hr, e]
    have hlen : ((lines.drop (H * k)).take H).length = H := by
      rw [List.length_take, List.length_drop, hl]
      rw [Nat.mul_add] at hk
      omega
    have := add_any (p := p) hf (y := (lines.drop (H * k)).take H) (by rw [hlen]; exact hH) (fun j => getD_take_drop lines _ _ hm j) n
    have := hb n
    omega
end Go.Proofs.Ytcmbbmilldhnnaa
/- block.Synth: what each call answers. -/
set_option linter.unusedVariables false
namespace Go.Proofs.Ytcmbbmilldhnnaa
open Go.ChangeShapes Go.WideShapes Go.ChangeAt Go.RowKit
attribute [local go_sem] Oper.semAt_some

/-- Whatever lay below M lies as it lay, but for blocks B and C. -/
structure Still2 (B C M : Nat) (w w' : World) : Prop where
  os : w'.os = w.os
  tape : w'.tape = w.tape
  output : w'.output = w.output
  size : w.heap.size ≤ w'.heap.size
  block : ∀ k, k < M → k ≠ B → k ≠ C → w'.heap[k]? = w.heap[k]?
theorem Still2.of {B C M : Nat} {w w' : World} (h : Below M w w') : Still2 B C M w w' := ⟨h.os, h.tape, h.output, h.size, fun k hk _ _ => h.block k hk⟩
theorem Still2.trans {B C M : Nat} {x y z : World} (h : Still2 B C M x y) (k : Still2 B C M y z) : Still2 B C M x z :=
  ⟨k.os.trans h.os, k.tape.trans h.tape, k.output.trans h.output, Nat.le_trans h.size k.size, fun i hi hn hm => (k.block i hi hn hm).trans (h.block i hi hn hm)⟩
theorem Still2.set {B C M : Nat} (w : World) (i : Nat) (v : Value) : Still2 B C M w (w.setCell ⟨B, i, none⟩ v) := ⟨rfl, rfl, rfl, by simp [World.setCell], fun k _ hk _ => Below.heap_setCell _ _ _ _ hk⟩
theorem Still2.boxed {B C M b : Nat} {w w' : World} {t : TypeId} {v : Value} (h : Still2 B C M w w') (hb : Boxed w b t v) (h1 : b < M) (h2 : b ≠ B) (h3 : b ≠ C) : Boxed w' b t v := (h.block b h1 h2 h3).trans hb
theorem Still2.below {B C M n : Nat} {w0 w w' : World} (h : Still2 B C M w w') (hb : Below n w0 w) (h1 : n ≤ M) (h2 : n ≤ B) (h3 : n ≤ C) : Below n w0 w' := hb.trans ⟨h.os, h.tape, h.output, h.size, fun k hk => h.block k (by omega) (by omega) (by omega)⟩
/-- All but block B lies as it lay. -/
structure Only (B : Nat) (w w' : World) : Prop where
  os : w'.os = w.os
  tape : w'.tape = w.tape
  output : w'.output = w.output
  size : w'.heap.size = w.heap.size
  block : ∀ k, k ≠ B → w'.heap[k]? = w.heap[k]?
theorem Only.refl (B : Nat) (w : World) : Only B w w := ⟨rfl, rfl, rfl, rfl, fun _ _ => rfl⟩
theorem Only.set {B : Nat} {w w' : World} (h : Only B w w') (i : Nat) (v : Value) : Only B w (w'.setCell ⟨B, i, none⟩ v) := ⟨h.os, h.tape, h.output, by simpa [World.setCell] using h.size, fun k hk => (Below.heap_setCell _ _ _ _ hk).trans (h.block k hk)⟩
theorem Only.still {B C M : Nat} {w w' : World} (h : Only C w w') : Still2 B C M w w' := ⟨h.os, h.tape, h.output, by rw [h.size]; exact Nat.le_refl _, fun k _ _ hk => h.block k hk⟩
theorem Only.still' {B C M : Nat} {w w' : World} (h : Only B w w') : Still2 B C M w w' := ⟨h.os, h.tape, h.output, by rw [h.size]; exact Nat.le_refl _, fun k _ hk _ => h.block k hk⟩
theorem Only.ints {B g : Nat} {w w' : World} {l : List Int} (h : Only B w w') (hI : IsInts w (some ⟨g, 0, none⟩) l) (hg : g ≠ B) : IsInts w' (some ⟨g, 0, none⟩) l := by
  rcases hI with h' | ⟨b, off, hp, hlt, hc⟩
  · exact .inl h'
  · obtain ⟨rfl, rfl⟩ : g = b ∧ 0 = off := by simpa using hp
    exact .inr ⟨g, 0, rfl, by rw [h.size]; exact hlt, fun j hj => (World.cell?_of_block (a := ⟨g, 0 + j, none⟩) (h.block g hg)).trans (hc j hj)⟩
theorem owns_away2 {L : Nat} {w w' : World} {base : Nat} {e : TypeId} {size : Nat} {g m c n : Nat} {xs : List Value} (h : w.ownsRow base e size (.slice (some ⟨g, 0, none⟩) m c) n xs) (hb : w'.heap[g]? = w.heap[g]?) : w'.ownsRow base e size (.slice (some ⟨g, 0, none⟩) m c) n xs := by
  refine ⟨h.1, ?_⟩
  rcases h.2 with hn | ⟨g', cap, cur, e', hg, hgg, rest⟩
  · exact .inl hn
  · obtain ⟨rfl, rfl, rfl⟩ : g = g' ∧ m = n ∧ c = cap := by simpa using e'
    exact .inr ⟨g, c, cur, rfl, hg, hb.trans hgg, rest⟩
/-- make, in a fence. -/
theorem makeIn_full {F : Fence} {n : Nat} {w : World} {ops : Array Oper} {rest : List Oper} {o : Oper} {a : Act} {Q : Exit → Act → World → Prop} (hgd : o.guard = none) (l c : Operand)
    (ho : o.op = Op.makeSlice 22 l c) (m : Nat) (hm : m ≤ 4096) (hl : a.eval l = .int .i64 m) (hc : a.eval c = .int .i64 m)
    (h : ∀ w', w.heap.size < w'.heap.size → w'.ownsRow w.heap.size 3 1 (.slice (some ⟨w.heap.size, 0, none⟩) m m) m (List.replicate m (.int .i64 0)) → Below w.heap.size w w' → wpListIn F n Try.prog ops Q rest (a.put o.dst (.slice (some ⟨w.heap.size, 0, none⟩) m m)) w') : wpListIn F n Try.prog ops Q (o :: rest) a w := by
  obtain ⟨i0, hi, hz0, hz1, hz2⟩ := info_parts Try.infoInt
  refine wpListIn_plain hgd fun K hK' => ?_
  obtain ⟨w', hrun, r1, r2⟩ := run_make_full (P := Try.prog) w w.heap.size 22 3 i0 (.int .i64 0) 1 Try.underlying22 hi hz0 hz1 .i64 .i64 m (by rw [hz2]; omega) (by unfold maxLen; omega) (Nat.le_refl _)
  have e := toList_madeCells_one (.int .i64 0) m
  have r1' : w'.ownsRow w.heap.size 3 1 (.slice (some ⟨w.heap.size, 0, none⟩) m m) m (List.replicate m (.int .i64 0)) := by rw [← e]; rw [Nat.mul_one] at r1; exact r1
  unfold Oper.wpIn
  refine ⟨?_, ?_⟩
  · simp [Oper.about, ho]
  · rw [Oper.semAt_plain F _ _ (by rw [ho]; intro c hc'; cases hc')]
    simp [execOp, ho, hl, hc, hrun, Result.andThen]
    exact hK' _ _ (h w' (r1'.lt _ rfl).2 r1' ((Below.refl _ _).grown r2 (Nat.le_refl _) (fun _ e => by cases e)))
theorem ints_take {w : World} {b off : Nat} {l : List Int} (h : IsInts w (some ⟨b, off, none⟩) l) (n : Nat) : IsInts w (some ⟨b, off, none⟩) (l.take n) := by
  have := ints_cut h 0 n
  rwa [Nat.add_zero, List.drop_zero] at this
theorem intsB_drop {w : World} {b off lo hi : Nat} {l : List Int} (h : IntsB w (some ⟨b, off, none⟩) l lo hi) (n : Nat) : IntsB w (some ⟨b, off + n, none⟩) (l.drop n) lo hi := by
  obtain ⟨h0, h⟩ := h
  refine ⟨h0, ?_⟩
  rcases h with h | ⟨b', off', hp, h1, h2, hc⟩
  · subst h; exact .inl (by simp)
  · obtain ⟨rfl, rfl⟩ : b = b' ∧ off = off' := by simpa using hp
    refine .inr ⟨b, off + n, rfl, h1, h2, fun j hj => ?_⟩
    rw [List.length_drop] at hj
    rw [Nat.add_assoc, hc (n + j) (by omega)]
    congr 2
    rw [List.getD_eq_getElem?_getD, List.getD_eq_getElem?_getD, List.getElem?_drop]
def outV (lines : List Int) (pre : List WinX) : List Value := ((List.range 512).map (synP (pre.map keyW) lines).1).map (Value.int .i64)
def ISyn (w : World) (M H : Nat) (lines : List Int) (pre : List WinX) (W : World) : Prop :=
  Boxed W (w.heap.size + 1) 22 (.slice none 0 0) ∧ Boxed W (w.heap.size + 2) 26 (.int .i64 0) ∧ Boxed W M 22 (.slice (some ⟨w.heap.size + 3, 0, none⟩) 512 512) ∧ Below w.heap.size w W ∧
  W.ownsRow (w.heap.size + 3) 3 1 (.slice (some ⟨w.heap.size + 3, 0, none⟩) 512 512) 512 (outV lines pre) ∧
  (∃ q c, Boxed W w.heap.size 22 (.slice q (lines.drop (H * pre.length)).length c) ∧ (lines.drop (H * pre.length)).length ≤ c ∧ IntsB W q (lines.drop (H * pre.length)) 0 w.heap.size) ∧
  (synP (pre.map keyW) lines).2 = lines.drop (H * pre.length) ∧ ∀ n, -(4294967296 * (pre.length : Int)) ≤ (synP (pre.map keyW) lines).1 n ∧ (synP (pre.map keyW) lines).1 n ≤ 4294967296 * (pre.length : Int)
theorem ISyn.apart {w : World} {M H : Nat} {lines : List Int} (pre : List WinX) (A B : World) (h : ISyn w M H lines pre A) (ha : Apart (M + 4) A B) (hM : w.heap.size + 3 < M) (hs : M + 4 ≤ A.heap.size) : ISyn w M H lines pre B := by
  obtain ⟨h1, h2, h3, h4, h5, ⟨q, c, h6, h7, h8⟩, h9, h10⟩ := h
  exact ⟨ha.boxed h1 (by omega), ha.boxed h2 (by omega), ha.boxed h3 (by omega), ha.below h4 (by omega) (by omega), owns_away2 (L := 0) h5 (ha.block _ (by omega) (by omega) (by omega)), ⟨q, c, ha.boxed h6 (by omega), h7, h8.keep (ha.below (Below.refl w.heap.size A) (by omega) (by omega)) (Nat.le_refl _)⟩, h9, h10⟩
set_option maxRecDepth 100000 in
set_option maxHeartbeats 4000000 in
theorem syn_ok (seq was shape : Int) (hs : seq = 0 ∨ seq = 1 ∨ seq = 2 ∨ seq = 3) (h0 : was = 0 ∨ was = 1) (h1 : shape = 0 ∨ shape = 1) (lines : List Int) (hl : lines.length = 256) (hm : ∀ j, -268435455 ≤ lines.getD j 0 ∧ lines.getD j 0 ≤ 268435455)
    (p : Option Addr) (c : Nat) (hc : 256 ≤ c) (w : World) (hI : IsInts w p lines) (hA : askedE seq was shape lines 256 (-268435455) 268435455 = 0) :
    Calls Try.prog 19 #[.int .u8 seq, .int .u8 was, .int .u8 shape, .slice p 256 c] w (RRowE (synL (winsL seq was shape) lines, 0) w) := by
  obtain ⟨pb, off, rfl, hpb, _⟩ := hI.at (j := 0) (by omega)
  have HAS := Lib.hid (show ∀ W, IsInts W (some ⟨pb, off, none⟩) lines → Calls Try.prog 24 #[.int .u8 seq, .int .u8 was, .int .u8 shape, .slice (some ⟨pb, off, none⟩) 256 c, .int .i64 256, .int .i64 (-268435455), .int .i64 268435455] W (RAsked 0 W) from fun W hW => by
    have := asked_ok seq was shape (some ⟨pb, off, none⟩) c lines 256 (by omega) (by omega) (-268435455) 268435455 W hW
    rw [hl, hA] at this
    exact this)
  unfold RAsked at HAS
  have HIB := Lib.hid hI.inB
  have HM := Lib.hid hm
  have HL := Lib.hid hl
  refine (callsIn_wide (n := 3)).1 ?_
  refine callsIn_of_wp_marks Try.func19 rfl trivial ?_ rfl
  simp only [Try.ntmps19, List.size_toArray, List.length_cons, List.length_nil, Nat.reduceAdd, Nat.reduceSub, Array.replicate_succ, Array.replicate_zero, List.push_toArray, List.append_toArray, List.nil_append, List.cons_append]
  gi_wp2_with fail
  refine ⟨trivial, ?_⟩
  refine (callsIn_wide.2 (HAS.out _ ?_)).mono ?_
  · exact HIB.out.ints.keep ((((Below.refl _ w).alloc (Nat.le_refl _) _).alloc (by simp) _).alloc (by simp; omega) _)
  rintro e w1 ⟨rfl, hw⟩
  rw [← hw]
  clear hw w1
  obtain ⟨W0, hW0⟩ : ∃ W0, ((w.alloc (.cells #[.slice (some ⟨pb, off, none⟩) 256 c] 22)).alloc (.cells #[.slice none 0 0] 22)).alloc (.cells #[.int .i64 0] 26) = W0 := ⟨_, rfl⟩
  have hsz0 : W0.heap.size = w.heap.size + 3 := by rw [← hW0]; simp
  have hB0 : Below w.heap.size w W0 := by rw [← hW0]; exact (((Below.refl _ w).alloc (Nat.le_refl _) _).alloc (by simp) _).alloc (by simp; omega) _
  have hb7 : Boxed W0 w.heap.size 22 (.slice (some ⟨pb, off, none⟩) 256 c) := by rw [← hW0]; exact ((box_new w _ _ rfl).alloc _).alloc _
  have hb8 : Boxed W0 (w.heap.size + 1) 22 (.slice none 0 0) := by rw [← hW0]; exact (box_new _ _ _ (by simp)).alloc _
  have hb9 : Boxed W0 (w.heap.size + 2) 26 (.int .i64 0) := by rw [← hW0]; exact box_new _ _ _ (by simp)
  rw [hW0]
  clear hW0
  gi_wp2_with (gi_at_make; refine makeIn_full rfl _ _ rfl 512 (by omega) rfl rfl ?_; intro W1 hlt1 hO1 hB1)
  refine ⟨trivial, ?_⟩
  refine (callsIn_wide.2 (windows_ok seq was shape _)).mono ?_
  rintro e w1 ⟨rfl, rfl⟩
  simp only [World.size_alloc, windowsV]
  obtain ⟨W2, hW2⟩ : ∃ W2, (((W1.alloc (.cells #[.slice (some ⟨w.heap.size + 3, 0, none⟩) 512 512] 22)).alloc (.cells #[.int .u8 seq] 5)).alloc (.cells #[.int .u8 was] 5)).alloc (.cells #[.int .u8 shape] 5) = W2 := ⟨_, rfl⟩
  rw [hsz0] at hlt1 hO1
  have hsz : W2.heap.size = W1.heap.size + 4 := by rw [← hW2]; simp
  have hB12 : Below W1.heap.size W1 W2 := by rw [← hW2]; exact ((((Below.refl _ W1).alloc (Nat.le_refl _) _).alloc (by simp) _).alloc (by simp; omega) _).alloc (by simp; omega) _
  have hb11 : Boxed W2 W1.heap.size 22 (.slice (some ⟨w.heap.size + 3, 0, none⟩) 512 512) := by rw [← hW2]; exact (((box_new _ _ _ rfl).alloc _).alloc _).alloc _
  have hba : Boxed W2 (W1.heap.size + 1) 5 (.int .u8 seq) := by rw [← hW2]; exact ((box_new _ _ _ (by simp)).alloc _).alloc _
  have hbb : Boxed W2 (W1.heap.size + 2) 5 (.int .u8 was) := by rw [← hW2]; exact (box_new _ _ _ (by simp)).alloc _
  have hbc : Boxed W2 (W1.heap.size + 3) 5 (.int .u8 shape) := by rw [← hW2]; exact box_new _ _ _ (by simp)
  have hB01 : Below w.heap.size W0 W2 := (hB1.trans (hB12.mono (by omega))).mono (by omega)
  have hcarry : ∀ {b : Nat} {t : TypeId} {v : Value}, Boxed W0 b t v → Boxed W2 b t v := fun {b t v} h => ((hB1.trans (hB12.mono (by omega))).block b h.lt).trans h
  have kb7 := hcarry hb7
  have kb8 := hcarry hb8
  have kb9 := hcarry hb9
  have hB02 : Below w.heap.size w W2 := hB0.trans hB01
  have hO2 : W2.ownsRow (w.heap.size + 3) 3 1 (.slice (some ⟨w.heap.size + 3, 0, none⟩) 512 512) 512 (outV lines []) := by
    have e : outV lines [] = List.replicate 512 (.int .i64 0) := by
      unfold outV
      rw [List.map_map]
      apply List.ext_getElem?
      intro j
      by_cases hj : j < 512
      · rw [List.getElem?_map, List.getElem?_range hj, List.getElem?_replicate_of_lt hj]; rfl
      · rw [List.getElem?_eq_none (by simp; omega), List.getElem?_eq_none (by simp; omega)]
    rw [e]
    exact owns_keep hO1 hB12
  gi_wp2_with fail
  rw [hW2]
  clear hW2 hcarry hb7 hb8 hb9 hO1
  have hseq : SeqAll Try.prog 38 #[.pointer (some ⟨W1.heap.size + 1, 0, none⟩), .pointer (some ⟨W1.heap.size + 1 + 1, 0, none⟩), .pointer (some ⟨W1.heap.size + 1 + 2, 0, none⟩)] encW (PxW seq was shape W2.heap.size) (SW seq was shape) (KW (W1.heap.size + 1)) W2 := by
    by_cases h2 : seq = 2
    · subst h2; exact windows_all2 was shape h0 h1 W2 (W1.heap.size + 1) (by omega) hba.cell hbb.cell hbc.cell
    · exact windows_all1 seq was shape (by omega) h0 h1 W2 (W1.heap.size + 1) (by omega) hba.cell hbb.cell hbc.cell
  obtain ⟨H, hH, hWF⟩ := wins_uni seq was shape hs h0 h1
  have HWF := Lib.hid hWF
  have HPX := Lib.hid (fun s x A B => PxW.apart (seq := seq) (was := was) (shape := shape) (L := W2.heap.size) s x A B)
  unfold PxW at HPX
  unfold SW PxW at hseq
  generalize winsL seq was shape = ws at *
  have h00 : ISyn w W1.heap.size H lines [] W2 := ⟨kb8, kb9, hb11, hB02, hO2, ⟨some ⟨pb, off, none⟩, c, by rw [List.length_nil, Nat.mul_zero, List.drop_zero, hl]; exact kb7, by rw [List.length_nil, Nat.mul_zero, List.drop_zero, hl]; exact hc, by rw [List.length_nil, Nat.mul_zero, List.drop_zero]; exact HIB.out.keep hB02 (Nat.le_refl _)⟩, rfl, fun n => by simp [synP]⟩
  clear hs h0 h1 hA HAS hba hbb hbc hm hWF kb7 kb8 kb9 hB01 hO2
  refine range_all (gf := 38) (lb := #[.pointer (some ⟨W1.heap.size + 1, 0, none⟩), .pointer (some ⟨W1.heap.size + 1 + 1, 0, none⟩), .pointer (some ⟨W1.heap.size + 1 + 2, 0, none⟩)]) rfl (enters_of Try.func38 (by kernel_rfl) rfl) hseq
    ?hK (fun _ => rfl) (ISyn w W1.heap.size H lines) ?hI ?hPx h00 ?hround ?hdone
  case hK =>
    intro A A' B B' g1 g2 g k k1 k2
    exact (g2 k (by omega)).trans ((g k k1 k2).trans (g1 k (by omega)))
  case hI =>
    intro s A B hi hz ha
    exact hi.apart s A B (by rw [← hsz]; exact ha) (by omega) (by omega)
  case hPx =>
    intro s x A B hx hz ha
    exact HPX.out s x A B hx hz ha
  case hround =>
    rintro l pre x W W3 hA2 ⟨k8, k9, k11, kB, hown, ⟨q, c7, k7, hc7, hIB7⟩, hst, hbd⟩ ⟨hx1, hx2, hx3, hx4⟩ K' hK'
    have HK := Lib.hid hK'
    clear hK'
    gi_wp2
    refine HK.out _ ?_
    clear HK K'
    obtain ⟨hf, hpl, hk⟩ := HWF.out _ _ hx1
    have hpl' : x.l.length = 2 * H := hpl
    obtain ⟨k, hkk⟩ : ∃ k, pre.length = k := ⟨_, rfl⟩
    rw [hkk] at hx1 hf hk k7 hc7 hIB7 hst hbd
    obtain ⟨S, hS⟩ : ∃ S, lines.drop (H * k) = S := ⟨_, rfl⟩
    have hSl : S.length = 256 - H * k := by rw [← hS, List.length_drop, hl]
    have hHk : H * k + H ≤ 256 := by rw [Nat.mul_add] at hk; omega
    have hSm : ∀ n j, -268435455 ≤ (S.take n).getD j 0 ∧ (S.take n).getD j 0 ≤ 268435455 := fun n j => by rw [← hS]; exact getD_take_drop lines _ _ HM.out j
    have hfit := stepS_fit (st := synP (pre.map keyW) lines) hf hH hpl hk hl HM.out hst hbd
    rw [hS] at hIB7 hc7 k7 hst
    obtain ⟨b1, o1, rfl, _⟩ := hIB7.at (j := 0) (by omega)
    obtain ⟨at_, hat⟩ : ∃ a : Nat, x.pos = (a : Int) := ⟨x.pos.toNat, by rcases hf.1 with ⟨_, h1, _⟩ | ⟨_, h1, _⟩ <;> (simp only at h1; omega)⟩
    have hq : at_ + 2 * H ≤ 512 := by
      rcases hf.1 with ⟨_, h1, h2⟩ | ⟨_, h1, h2⟩ <;> (simp only at h1 h2; omega)
    have hYl : (S.take H).length = H := by rw [List.length_take]; omega
    have hYm := fun j => hSm H j
    have HIN := Lib.hid (fun (W : World) (c' : Nat) (hI : IsInts W (some ⟨b1, o1, none⟩) (S.take H)) => show Calls Try.prog 33 #[.slice (some ⟨b1, o1, none⟩) H c'] W (RRowE (linesI (S.take H), 0) W) by
      have h := inv_any (S.take H) (some ⟨b1, o1, none⟩) c' (by omega) W hI
      have e : invN (S.take H) = (linesI (S.take H), 0) := by
        unfold invN
        rw [if_neg (by omega), if_neg]
        intro ho
        obtain ⟨y, hy, hyo⟩ := List.any_eq_true.1 ho
        obtain ⟨i, hi, rfl⟩ := List.getElem_of_mem hy
        have r := hYm i
        rw [List.getD_eq_getElem?_getD, List.getElem?_eq_getElem hi] at r
        simp only [Option.getD_some] at r
        unfold oddP at hyo
        simp only [Bool.or_eq_true, decide_eq_true_eq] at hyo
        omega
      rw [e, hYl] at h
      exact h)
    have HTT := Lib.hid (fun (W : World) (g cg : Nat) (hI : IsInts W (some ⟨g, 0, none⟩) (linesI (S.take H))) (hV : IsInts W (some ⟨x.b, 0, none⟩) x.l) => show Calls Try.prog 27 #[.slice (some ⟨g, 0, none⟩) (2 * H) cg, .slice (some ⟨x.b, 0, none⟩) (2 * H) x.c, .int .i64 26] W (RRowF (partS (keyW x) (S.take H)) W) by
      have e : (linesI (S.take H)).length = 2 * H := by rw [linesI_len, hYl]
      have h := times_ok (linesI (S.take H)) x.l 26 (by omega) (some ⟨g, 0, none⟩) (some ⟨x.b, 0, none⟩) cg x.c (2 * H) W hI hV hpl' (by omega) (by omega) (fun j hj => by
        have a := linesI_any (y := S.take H) (by omega) hYm j
        have b := getD_range (l := x.l) hf.2 (by omega) (by omega) j
        have := mul_fit a.1 a.2 b.1 b.2
        omega)
      rw [e] at h
      exact h)
    have hPl : (partS (keyW x) (S.take H)).length = 2 * H := by rw [part_len, hYl]
    have hPm := fun j => part_any (p := (x.pos, x.l)) hf (y := S.take H) (by omega) hYm j
    have HX4 := Lib.hid hx4
    dsimp only [encW]
    rw [hat, hpl']
    obtain ⟨m, hm⟩ : ∃ m, 2 * H = m := ⟨_, rfl⟩
    rw [hm] at HTT hPl ⊢
    have hc7' := k7.cell
    have hf7 := k7.frozen
    have hc11 := k11.cell
    have hw0 : (m : Int).tdiv 2 = H := by rw [Int.tdiv_eq_ediv_of_nonneg (by omega)]; omega
    have hw1 : IntKind.i64.wrap (H : Int) = H := by rw [IntKind.wrap_i64]; omega
    obtain ⟨s, hs⟩ : ∃ s, S.length = s := ⟨_, rfl⟩
    rw [hs] at hc7' hc7 k7
    have hsH : H ≤ s := by omega
    have HSN := Lib.hid (show ∀ j, (synP ((pre ++ [x]).map keyW) lines).1 j = (synP (pre.map keyW) lines).1 j + (if at_ ≤ j ∧ j < at_ + m then (partS (keyW x) (S.take H)).getD (j - at_) 0 else 0) from fun j => by
      rw [List.map_append, show [x].map keyW = [keyW x] from rfl, synP_snoc]
      show _ + addS (keyW x) ((synP (pre.map keyW) lines).2.take ((keyW x).2.length / 2)) j = _
      unfold addS
      rw [hst, show (keyW x).2.length = m by rw [← hm]; exact hpl', show m / 2 = H by omega, show (keyW x).1.toNat = at_ by show x.pos.toNat = at_; rw [hat]; rfl])
    have hfit' : (synP ((pre ++ [x]).map keyW) lines).2 = lines.drop (H * (k + 1)) ∧ ∀ n, -(4294967296 * ((k + 1 : Nat) : Int)) ≤ (synP ((pre ++ [x]).map keyW) lines).1 n ∧ (synP ((pre ++ [x]).map keyW) lines).1 n ≤ 4294967296 * ((k + 1 : Nat) : Int) := by
      rw [List.map_append, show [x].map keyW = [keyW x] from rfl, synP_snoc]; exact hfit
    have HFIT := Lib.hid hfit'
    have HRO := Lib.hid hown
    have HO9 := Lib.hid (show outV lines pre = ((List.range 512).map (synP (pre.map keyW) lines).1).map (Value.int .i64) from rfl)
    have hk8 : k < 8 := by rcases hH with rfl | rfl <;> omega
    have HBD := Lib.hid (show ∀ j, -34359738368 ≤ (synP (pre.map keyW) lines).1 j ∧ (synP (pre.map keyW) lines).1 j ≤ 34359738368 from fun j => by have := hbd j; omega)
    have HI3 := Lib.hid (ints_take hIB7.ints H)
    have HDB := Lib.hid hIB7
    have hx2' : W2.heap.size + 2 ≤ x.b := hx2
    have hLIl : (linesI (S.take H)).length = m := by rw [linesI_len, hYl]; exact hm
    obtain ⟨fV, hfV⟩ : ∃ fV, (synP (pre.map keyW) lines).1 = fV := ⟨_, rfl⟩
    rw [hfV] at HSN HO9 HBD
    obtain ⟨PS, hPS⟩ : ∃ PS, partS (keyW x) (S.take H) = PS := ⟨_, rfl⟩
    rw [hPS] at HTT HSN hPl
    have HPM := Lib.hid (show ∀ j, -4294967296 ≤ PS.getD j 0 ∧ PS.getD j 0 ≤ 4294967296 from fun j => by rw [← hPS]; exact hPm j)
    unfold RRowE at HIN
    dsimp only at HIN
    unfold RRowF at HTT
    rw [hPl] at HTT
    obtain ⟨LI, hLI⟩ : ∃ LI, linesI (S.take H) = LI := ⟨_, rfl⟩
    rw [hLI] at HIN HTT hLIl
    rw [hLIl] at HIN
    have HLI := Lib.hid hLIl
    have HPL := Lib.hid hPl
    clear hown hx4 hIB7 hst hbd hfit hfit' hYm hSm hPm hPl hfV hPS hLI hLIl hx2
    gi_wp2_with fail
    refine ⟨trivial, ?_⟩
    refine (CallsIn.inRound l (callsIn_wide.2 (HIN.out _ _ HI3.out))).mono ?_
    rintro e W4 ⟨v4, rfl, hO4, hB4⟩
    rw [← HLI.out] at hO4
    obtain ⟨g4, cap4, rfl, hg4, hlt4, hc4⟩ := owns_at hO4 (by intro e; have := HLI.out; rw [e] at this; simp only [List.length_nil] at this; omega)
    have HI4 := Lib.hid (isInts_of hlt4 hc4)
    rw [HLI.out]
    have hz4 := hB4.size
    have j7 : Boxed W4 w.heap.size 22 (.slice (some ⟨b1, o1, none⟩) s c7) := (hB4.block _ (by omega)).trans k7
    have hc4' := j7.cell
    have hf4' := j7.frozen
    have HB4 := Lib.hid hB4
    clear hO4 hc4 HIN hc7' hf7 hB4 hc11
    gi_wp2_with fail
    all_goals
      first
      | (obtain ⟨W5, hW5⟩ : ∃ W5, W4.setCell ⟨w.heap.size, 0, none⟩ (.slice (some ⟨b1, o1 + H, none⟩) (s - H) (c7 - H)) = W5 := ⟨_, rfl⟩
         rw [hW5]
         have S5 : Only w.heap.size W4 W5 := by rw [← hW5]; exact (Only.refl _ _).set _ _
         have k5 : ∃ q' c', Boxed W5 w.heap.size 22 (.slice q' (s - H) c') ∧ s - H ≤ c' ∧ IntsB W3 q' (S.drop H) 0 w.heap.size := ⟨_, _, by rw [← hW5]; exact j7.set _, by omega, intsB_drop HDB.out H⟩
         have I5 : ∀ g l, IsInts W4 (some ⟨g, 0, none⟩) l → g ≠ w.heap.size → IsInts W5 (some ⟨g, 0, none⟩) l := fun g l h hn => by rw [← hW5]; exact h.setCell _ _ hn
         have z5 : W5.heap.size = W4.heap.size := by rw [← hW5]; simp [World.setCell]
         clear hW5)
      | (obtain ⟨W5, hW5⟩ : ∃ W5, W4.setCell ⟨w.heap.size, 0, none⟩ (.slice (some ⟨b1, o1, none⟩) (s - H) 0) = W5 := ⟨_, rfl⟩
         rw [hW5]
         have S5 : Only w.heap.size W4 W5 := by rw [← hW5]; exact (Only.refl _ _).set _ _
         have k5 : ∃ q' c', Boxed W5 w.heap.size 22 (.slice q' (s - H) c') ∧ s - H ≤ c' ∧ IntsB W3 q' (S.drop H) 0 w.heap.size := ⟨_, _, by rw [← hW5]; exact j7.set _, by omega, HDB.out.1, .inl (List.eq_nil_of_length_eq_zero (by rw [List.length_drop]; omega))⟩
         have I5 : ∀ g l, IsInts W4 (some ⟨g, 0, none⟩) l → g ≠ w.heap.size → IsInts W5 (some ⟨g, 0, none⟩) l := fun g l h hn => by rw [← hW5]; exact h.setCell _ _ hn
         have z5 : W5.heap.size = W4.heap.size := by rw [← hW5]; simp [World.setCell]
         clear hW5)
      have K5 := Lib.hid k5
      clear k5
      refine ⟨trivial, ?_⟩
      refine (CallsIn.inRound l (callsIn_wide.2 (HTT.out W5 g4 cap4 (I5 _ _ HI4.out (by omega)) (I5 _ _ (HX4.out.keep HB4.out) (by omega))))).mono ?_
      rintro e W6 ⟨g6, rfl, hO6, hg6, hlt6, hB6⟩
      have hz6 := hB6.size
      have HI6 := Lib.hid (full_ints hO6 HPL.out hlt6)
      have hR6 : W6.ownsRow (w.heap.size + 3) 3 1 (.slice (some ⟨w.heap.size + 3, 0, none⟩) 512 512) 512 (outV lines pre) :=
        owns_away2 (L := 0) HRO.out ((hB6.block (w.heap.size + 3) (by omega)).trans ((S5.block (w.heap.size + 3) (by omega)).trans (HB4.out.block (w.heap.size + 3) (by omega))))
      have k116 : Boxed W6 W1.heap.size 22 (.slice (some ⟨w.heap.size + 3, 0, none⟩) 512 512) := (hB6.block W1.heap.size (by omega)).trans ((S5.block W1.heap.size (by omega)).trans ((HB4.out.block W1.heap.size (by omega)).trans k11))
      have HR6 := Lib.hid hR6
      have HB6 := Lib.hid hB6
      have K11 := Lib.hid k116
      clear hO6 HTT hR6 hB6 k116 I5 hc4' hf4'
      gi_wp2_with fail
      gi_loopw [54] (fun I wr => ∃ (i : Nat) (xs : List Value), I = .int .i64 i ∧ i ≤ m ∧ Hid (wr.ownsRow (w.heap.size + 3) 3 1 (.slice (some ⟨w.heap.size + 3, 0, none⟩) 512 512) 512 xs) ∧ Hid (xs.length = 512) ∧ Hid (∀ j, j < 512 → xs[j]? = some (.int .i64 (fV j + (if at_ ≤ j ∧ j < at_ + i then PS.getD (j - at_) 0 else 0)))) ∧ Hid (Only (w.heap.size + 3) W6 wr)) (fun I _ => m - (intOf I).toNat)
      case atStart => exact ⟨0, _, rfl, Nat.zero_le _, HR6, Lib.hid (by unfold outV; simp), Lib.hid (fun j hj => by rw [HO9.out, List.map_map, List.getElem?_map, List.getElem?_range hj, if_neg (by omega), Int.add_zero]; rfl), Lib.hid (Only.refl _ _)⟩
      case round =>
        obtain ⟨i, xs, rfl, hi, hO, hlx, hxs, hOn⟩ := hrel
        clear HR6
        by_cases hlt : i < m
        · have hd : decide ((i : Int) < (m : Int)) = true := decide_eq_true (by omega)
          obtain ⟨b2, o2, e2, _, hc2⟩ := (hOn.out.ints HI6.out (by omega)).at (j := i) (by rw [HPL.out]; exact hlt)
          obtain ⟨rfl, rfl⟩ : g6 = b2 ∧ 0 = o2 := by simpa using e2
          have hcP := hc2 i (by rw [HPL.out]; exact hlt)
          rw [Nat.zero_add] at hcP
          have k11r := (K11.out : Boxed W6 W1.heap.size _ _)
          have hc11 : wr.cell? ⟨W1.heap.size, 0, none⟩ = some (.slice (some ⟨w.heap.size + 3, 0, none⟩) 512 512) := (show Boxed wr W1.heap.size 22 _ from (hOn.out.block _ (by omega)).trans k11r).cell
          have hcO := hO.out.cellAt (at_ + i) (by omega)
          have hfO := hO.out.frozenAt (at_ + i)
          have hx0 := hxs.out (at_ + i) (by omega)
          rw [if_neg (by omega), Int.add_zero] at hx0
          rw [hx0] at hcO
          have r1 := HBD.out (at_ + i)
          have r2 := HPM.out i
          have T1 := Lib.hid (show PS.getD i 0 = PS.getD (at_ + i - at_) 0 by congr 1; omega)
          obtain ⟨y, hy⟩ : ∃ y, PS.getD i 0 = y := ⟨_, rfl⟩
          obtain ⟨z, hz⟩ : ∃ z, fV (at_ + i) = z := ⟨_, rfl⟩
          rw [hy] at hcP r2
          rw [hz] at hcO r1
          have hw5 : IntKind.i64.wrap ((at_ : Int) + (i : Int)) = ((at_ + i : Nat) : Int) := by rw [IntKind.wrap_i64]; omega
          have hw6 : IntKind.i64.wrap (z + y) = z + y := by rw [IntKind.wrap_i64]; omega
          have hai : at_ + i < 512 := by omega
          have hS := hO.out.stored (at_ + i) (.int .i64 (z + y))
          have hO2 := Lib.hid hS.1
          have hl2 := Lib.hid (show (xs.set (at_ + i) (.int .i64 (z + y))).length = 512 by simp [hlx.out])
          have hx2 := Lib.hid (show ∀ j, j < 512 → (xs.set (at_ + i) (.int .i64 (z + y)))[j]? = some (.int .i64 (fV j + (if at_ ≤ j ∧ j < at_ + (i + 1) then PS.getD (j - at_) 0 else 0))) from fun j hj => by
            by_cases e : j = at_ + i
            · subst e
              rw [List.getElem?_set_self (by rw [hlx.out]; omega), if_pos (by omega), ← T1.out, hz, hy]
            · rw [List.getElem?_set_ne (by omega), hxs.out j hj]
              by_cases e2 : at_ ≤ j ∧ j < at_ + i
              · rw [if_pos e2, if_pos (by omega)]
              · rw [if_neg e2, if_neg (by omega)])
          have hOn2 := Lib.hid (hOn.out.set (at_ + i) (.int .i64 (z + y)))
          clear hS hxs hO hlx hOn hx0 hc2 e2
          gi_wp2
          all_goals exact ⟨⟨i + 1, _, by go_num, by omega, hO2, hl2, hx2, hOn2⟩, by simp [intOf]; omega⟩
        · have hd : decide ((i : Int) < (m : Int)) = false := decide_eq_false (by omega)
          have him := Lib.hid (show i = m by omega)
          gi_wp2
          have hSt : Still2 w.heap.size (w.heap.size + 3) (W1.heap.size + 6) W3 wr := (((Still2.of (HB4.out.mono (by omega))).trans S5.still').trans (Still2.of (HB6.out.mono (by omega)))).trans hOn.out.still
          have hlen : (pre ++ [x]).length = k + 1 := by rw [List.length_append, hkk]; rfl
          have hdr : lines.drop (H * (k + 1)) = S.drop H := by rw [← hS, List.drop_drop, Nat.mul_add, Nat.mul_one]
          have hdl : (S.drop H).length = s - H := by rw [List.length_drop, hs]
          obtain ⟨q', c', b5, hc', hib⟩ := K5.out
          refine ⟨⟨hSt.size, hSt.block _ (by omega) (by omega) (by omega), hSt.block _ (by omega) (by omega) (by omega)⟩, fun j j1 j2 => hSt.block j (by omega) (by omega) (by omega), hSt.boxed k8 (by omega) (by omega) (by omega), hSt.boxed k9 (by omega) (by omega) (by omega), hSt.boxed k11 (by omega) (by omega) (by omega), hSt.below kB (by omega) (by omega) (by omega), ?_, ⟨q', c', ?_, ?_, ?_⟩, ?_, ?_⟩
          · have e := fill_eq (f := fun j => fV j + (if at_ ≤ j ∧ j < at_ + m then PS.getD (j - at_) 0 else 0)) hlx.out (by rw [← him.out]; exact hxs.out)
            have e2 : outV lines (pre ++ [x]) = xs := by
              rw [e]; unfold outV
              congr 1
              exact List.map_congr_left (fun j _ => HSN.out j)
            rw [e2]; exact hO.out
          · rw [hlen, hdr, hdl]
            exact (hOn.out.block w.heap.size (by omega)).trans ((HB6.out.block w.heap.size (by omega)).trans b5)
          · rw [hlen, hdr, hdl]; exact hc'
          · rw [hlen, hdr]
            exact hib.keep (hSt.below (Below.refl w.heap.size W3) (by omega) (Nat.le_refl _) (by omega)) (Nat.le_refl _)
          · rw [hlen]; exact HFIT.out.1
          · rw [hlen]; exact HFIT.out.2
  case hdone =>
    rintro xs W hz hS ⟨k8, k9, k11, kB, hown, _, _, _⟩ hK
    have e1 : xs.map keyW = ws := hS
    have hLL : outV lines xs = (synL ws lines).map (Value.int .i64) := by unfold outV synL; rw [e1]
    rw [hLL] at hown
    have hll : (synL ws lines).length = 512 := by unfold synL; simp
    have HLL := Lib.hid hll
    have HO := Lib.hid hown
    have hc11 := k11.cell
    have hc8 := k8.cell
    have hc9 := k9.cell
    have hf8 := k8.frozen
    have hf9 := k9.frozen
    generalize synL ws lines = LL at *
    clear hown hLL hll e1 hS
    gi_wp2
    rw [hsz] at hK hz
    obtain ⟨W8, hW8⟩ : ∃ W8, (W.setCell ⟨w.heap.size + 1, 0, none⟩ (.slice (some ⟨w.heap.size + 3, 0, none⟩) 512 512)).setCell ⟨w.heap.size + 1 + 1, 0, none⟩ (.int .i64 0) = W8 := ⟨_, rfl⟩
    have j8 : Boxed W8 (w.heap.size + 1) 22 (.slice (some ⟨w.heap.size + 3, 0, none⟩) 512 512) := by rw [← hW8]; exact (k8.set _).other (by omega) _
    have j9 : Boxed W8 (w.heap.size + 2) 26 (.int .i64 0) := by rw [← hW8]; exact (k9.other (by omega) _).set _
    have hK8 : W8.heap[W1.heap.size + 4]? = some (.deferred (some [])) := by
      rw [← hW8]
      exact (Below.heap_setCell _ _ _ _ (by show _ ≠ w.heap.size + 1 + 1; omega)).trans ((Below.heap_setCell _ _ _ _ (by show _ ≠ w.heap.size + 1; omega)).trans hK)
    have hB8 : Below w.heap.size w W8 := by rw [← hW8]; exact (kB.setCell (p := ⟨w.heap.size + 1, 0, none⟩) (by show _ ≤ w.heap.size + 1; omega) _).setCell (p := ⟨w.heap.size + 1 + 1, 0, none⟩) (by show _ ≤ w.heap.size + 1 + 1; omega) _
    have hO8 : W8.ownsRow (w.heap.size + 3) 3 1 (.slice (some ⟨w.heap.size + 3, 0, none⟩) 512 512) 512 (LL.map (Value.int .i64)) := by
      rw [← hW8]
      exact (HO.out.kept (grownBy_setCell' _ _ _) (.inr (by simp [Value.ownBlock]))).kept (grownBy_setCell' _ _ _) (.inr (by simp [Value.ownBlock]))
    rw [hW8, hsz]
    clear hW8 HO hf8 hf9 hc8 hc9
    refine ⟨by simp, .inl ⟨_, _, rfl, run_takeDeferred hK8, ?_⟩⟩
    have q8 := (j8.kept (grownBy_putObj' W8 (W1.heap.size + 4) (.deferred none)) (by simp; omega)).cell
    have q9 := (j9.kept (grownBy_putObj' W8 (W1.heap.size + 4) (.deferred none)) (by simp; omega)).cell
    refine ⟨.tuple #[.slice (some ⟨w.heap.size + 3, 0, none⟩) 512 512, .int .i64 0], ?_, _, rfl, ?_, hB8.trans (belowK_b (w := w) (Nat.le_refl _) W8 (W1.heap.size + 4) _ _ (by omega) hK8 rfl rfl)⟩
    · simp [results, Try.f19, go_sem, q8, q9]
    · show World.ownsRow _ _ _ _ _ LL.length _
      rw [HLL.out]
      exact ownsRow_putObj (owns_lower hO8 (by omega)) _ hK8 rfl
end Go.Proofs.Ytcmbbmilldhnnaa
/- block.Analyse and Synth where they refuse. -/
set_option linter.unusedVariables false
namespace Go.Proofs.Ytcmbbmilldhnnaa
open Go.ChangeShapes Go.WideShapes Go.ChangeAt Go.RowKit
attribute [local go_sem] Oper.semAt_some
set_option maxRecDepth 100000 in
set_option maxHeartbeats 4000000 in
theorem ana_bad (seq was shape E : Int) (n c : Nat) (p : Option Addr) (w : World) (hE : E ≠ 0)
    (hA : ∀ W, Below w.heap.size w W → Calls Try.prog 24 #[.int .u8 seq, .int .u8 was, .int .u8 shape, .slice p n c, .int .i64 512, .int .i64 (-32768), .int .i64 32767] W (RAsked E W)) :
    Calls Try.prog 12 #[.int .u8 seq, .int .u8 was, .int .u8 shape, .slice p n c] w (RRowE ([], E) w) := by
  unfold RAsked at hA
  have HAS := Lib.hid hA
  have d1 : (E == 0) = false := beq_eq_false_iff_ne.2 hE
  have d2 : (E != 0) = true := by simp [bne, d1]
  clear hA
  refine (callsIn_wide (n := 3)).1 ?_
  refine callsIn_of_wp Try.func12 rfl trivial ?_ rfl
  simp only [Try.ntmps12, List.size_toArray, List.length_cons, List.length_nil, Nat.reduceAdd, Nat.reduceSub, Array.replicate_succ, Array.replicate_zero, List.push_toArray, List.append_toArray, List.nil_append, List.cons_append]
  gi_wp2_with fail
  have hB0 : Below w.heap.size w (((w.alloc (.cells #[.slice p n c] 22)).alloc (.cells #[.slice none 0 0] 22)).alloc (.cells #[.int .i64 0] 26)) := (((Below.refl _ w).alloc (Nat.le_refl _) _).alloc (by simp) _).alloc (by simp; omega) _
  refine ⟨trivial, ?_⟩
  refine (callsIn_wide.2 (HAS.out _ hB0)).mono ?_
  rintro e w1 ⟨rfl, hw⟩
  rw [← hw]
  clear hw w1
  obtain ⟨W0, hW0⟩ : ∃ W0, (((w.alloc (.cells #[.slice p n c] 22)).alloc (.cells #[.slice none 0 0] 22)).alloc (.cells #[.int .i64 0] 26)) = W0 := ⟨_, rfl⟩
  have b8 : Boxed W0 (w.heap.size + 1) 22 (.slice none 0 0) := by rw [← hW0]; exact (box_new _ _ _ (by simp)).alloc _
  have b9 : Boxed W0 (w.heap.size + 2) 26 (.int .i64 0) := by rw [← hW0]; exact box_new _ _ _ (by simp)
  rw [hW0] at hB0 ⊢
  clear hW0
  have hc8 := b8.cell
  have hf8 := b8.frozen
  have hc9 := b9.cell
  have hf9 := b9.frozen
  gi_wp2
  have q8 := ((b8.set (.slice none 0 0)).other (B' := w.heap.size + 1 + 1) (by omega) (.int .i64 E)).cell
  have q9 := ((b9.other (B' := w.heap.size + 1) (by omega) (.slice none 0 0)).set (.int .i64 E)).cell
  refine bodyPost_ret (v := .tuple #[.slice none 0 0, .int .i64 E]) ?_ rfl ?_
  · simp [results, Try.f12, go_sem, q8, q9]
  · exact ⟨_, rfl, World.ownsRow_nil _ _ _ _, (hB0.setCell (p := ⟨w.heap.size + 1, 0, none⟩) (by show _ ≤ w.heap.size + 1; omega) _).setCell (p := ⟨w.heap.size + 1 + 1, 0, none⟩) (by show _ ≤ w.heap.size + 1 + 1; omega) _⟩
set_option maxRecDepth 100000 in
set_option maxHeartbeats 4000000 in
theorem syn_bad (seq was shape E : Int) (n c : Nat) (p : Option Addr) (w : World) (hE : E ≠ 0)
    (hA : ∀ W, Below w.heap.size w W → Calls Try.prog 24 #[.int .u8 seq, .int .u8 was, .int .u8 shape, .slice p n c, .int .i64 256, .int .i64 (-268435455), .int .i64 268435455] W (RAsked E W)) :
    Calls Try.prog 19 #[.int .u8 seq, .int .u8 was, .int .u8 shape, .slice p n c] w (RRowE ([], E) w) := by
  unfold RAsked at hA
  have HAS := Lib.hid hA
  have d1 : (E == 0) = false := beq_eq_false_iff_ne.2 hE
  have d2 : (E != 0) = true := by simp [bne, d1]
  clear hA
  refine (callsIn_wide (n := 3)).1 ?_
  refine callsIn_of_wp Try.func19 rfl trivial ?_ rfl
  simp only [Try.ntmps19, List.size_toArray, List.length_cons, List.length_nil, Nat.reduceAdd, Nat.reduceSub, Array.replicate_succ, Array.replicate_zero, List.push_toArray, List.append_toArray, List.nil_append, List.cons_append]
  gi_wp2_with fail
  have hB0 : Below w.heap.size w (((w.alloc (.cells #[.slice p n c] 22)).alloc (.cells #[.slice none 0 0] 22)).alloc (.cells #[.int .i64 0] 26)) := (((Below.refl _ w).alloc (Nat.le_refl _) _).alloc (by simp) _).alloc (by simp; omega) _
  refine ⟨trivial, ?_⟩
  refine (callsIn_wide.2 (HAS.out _ hB0)).mono ?_
  rintro e w1 ⟨rfl, hw⟩
  rw [← hw]
  clear hw w1
  obtain ⟨W0, hW0⟩ : ∃ W0, (((w.alloc (.cells #[.slice p n c] 22)).alloc (.cells #[.slice none 0 0] 22)).alloc (.cells #[.int .i64 0] 26)) = W0 := ⟨_, rfl⟩
  have b8 : Boxed W0 (w.heap.size + 1) 22 (.slice none 0 0) := by rw [← hW0]; exact (box_new _ _ _ (by simp)).alloc _
  have b9 : Boxed W0 (w.heap.size + 2) 26 (.int .i64 0) := by rw [← hW0]; exact box_new _ _ _ (by simp)
  rw [hW0] at hB0 ⊢
  clear hW0
  have hc8 := b8.cell
  have hf8 := b8.frozen
  have hc9 := b9.cell
  have hf9 := b9.frozen
  gi_wp2
  have q8 := ((b8.set (.slice none 0 0)).other (B' := w.heap.size + 1 + 1) (by omega) (.int .i64 E)).cell
  have q9 := ((b9.other (B' := w.heap.size + 1) (by omega) (.slice none 0 0)).set (.int .i64 E)).cell
  refine bodyPost_ret (v := .tuple #[.slice none 0 0, .int .i64 E]) ?_ rfl ?_
  · simp [results, Try.f19, go_sem, q8, q9]
  · exact ⟨_, rfl, World.ownsRow_nil _ _ _ _, (hB0.setCell (p := ⟨w.heap.size + 1, 0, none⟩) (by show _ ≤ w.heap.size + 1; omega) _).setCell (p := ⟨w.heap.size + 1 + 1, 0, none⟩) (by show _ ≤ w.heap.size + 1 + 1; omega) _⟩
end Go.Proofs.Ytcmbbmilldhnnaa
/- block.Window at arguments that may not be. -/
set_option linter.unusedVariables false
namespace Go.Proofs.Ytcmbbmilldhnnaa
open Go.ChangeShapes Go.WideShapes Go.ChangeAt Go.RowKit
set_option maxHeartbeats 1000000 in
theorem win_bad1 (seq was shape : Int) (h : (decide (was ≤ 1) && decide (shape ≤ 1)) = false) (w : World) : Calls Try.prog 39 #[.int .u8 seq, .int .u8 was, .int .u8 shape] w (fun e w' => e = .returned (.tuple #[.slice none 0 0, .int .i64 2]) ∧ w = w') := by
  have HSH := Lib.hid (fun W => shaped_ok was shape W)
  rw [h] at HSH
  clear h
  go_enter Try.func39, Try.ntmps39
  go_wp2_with fail
  refine (HSH.out _).mono ?_
  rintro e w1 ⟨rfl, hw⟩
  rw [← hw]
  clear hw w1
  go_wp2
  go_ret2
  exact ⟨rfl, rfl⟩
set_option maxHeartbeats 1000000 in
theorem win_bad2 (seq was shape : Int) (h : (decide (was ≤ 1) && decide (shape ≤ 1)) = true) (hs : 3 < seq) (w : World) : Calls Try.prog 39 #[.int .u8 seq, .int .u8 was, .int .u8 shape] w (fun e w' => e = .returned (.tuple #[.slice none 0 0, .int .i64 2]) ∧ w = w') := by
  have HSH := Lib.hid (fun W => shaped_ok was shape W)
  rw [h] at HSH
  have d1 : decide (3 < seq) = true := decide_eq_true hs
  clear h hs
  go_enter Try.func39, Try.ntmps39
  go_wp2_with fail
  refine (HSH.out _).mono ?_
  rintro e w1 ⟨rfl, hw⟩
  rw [← hw]
  clear hw w1
  go_wp2
  go_ret2
  exact ⟨rfl, rfl⟩
set_option maxHeartbeats 1000000 in
theorem win_bad3 (was shape : Int) (h : (decide (was ≤ 1) && decide (shape ≤ 1)) = true) (w : World) : Calls Try.prog 39 #[.int .u8 2, .int .u8 was, .int .u8 shape] w (fun e w' => e = .returned (.tuple #[.slice none 0 0, .int .i64 2]) ∧ w = w') := by
  have HSH := Lib.hid (fun W => shaped_ok was shape W)
  rw [h] at HSH
  clear h
  go_enter Try.func39, Try.ntmps39
  go_wp2_with fail
  refine (HSH.out _).mono ?_
  rintro e w1 ⟨rfl, hw⟩
  rw [← hw]
  clear hw w1
  go_wp2
  go_ret2
  exact ⟨rfl, rfl⟩
end Go.Proofs.Ytcmbbmilldhnnaa
/- Noughts, in plain numbers. -/
set_option linter.unusedVariables false
set_option linter.unusedSimpArgs false
namespace Go.Proofs.Ytcmbbmilldhnnaa
open Go.ChangeShapes Go.WideShapes Go.ChangeAt Go.RowKit

def zeroL (n : Nat) : List Int := List.replicate n 0
theorem zero_len (n : Nat) : (zeroL n).length = n := by simp [zeroL]
theorem zero_get (n j : Nat) : (zeroL n).getD j 0 = 0 := by
  unfold zeroL
  simp [List.getD_eq_getElem?_getD, List.getElem?_replicate]
  split <;> rfl
theorem zero_map (n : Nat) : (zeroL n).map (Value.int .i64) = List.replicate n (.int .i64 0) := by simp [zeroL]
theorem zero_any (n : Nat) (m : Int) (hm : 0 ≤ m) : (zeroL n).any (oddP m) = false := by
  apply List.any_eq_false.2
  intro x hx
  have : x = 0 := by simp [zeroL] at hx; exact hx.2
  subst this
  simp [oddP]; omega
theorem sum_zero (n : Nat) (A B : Int) (k : Nat) : sumX (zeroL n) A B k = 0 := by
  unfold sumX
  rw [sumF_congr (g := fun _ => (0 : Int)) k (fun j _ => by rw [zero_get]; simp), sumF_const]
  simp
theorem rnd_zero33 : rnd 0 33 = 0 := by decide +kernel
theorem rnd_zero26 : rnd 0 26 = 0 := by decide +kernel
theorem rnd_zero23 : rnd 0 23 = 0 := by decide +kernel
theorem map_zero (f : Nat → Int) (n : Nat) (h : ∀ k, f k = 0) : (List.range n).map f = zeroL n := by
  apply List.ext_getElem?
  intro i
  unfold zeroL
  simp [List.getElem?_replicate, h]
  split <;> simp [*]
theorem linesF_zero (n : Nat) : linesF (zeroL n) = zeroL (n / 2) := by
  unfold linesF
  rw [zero_len]
  exact map_zero _ _ (fun k => by unfold lineF; rw [sum_zero, rnd_zero33])
theorem linesI_zero (n : Nat) : linesI (zeroL n) = zeroL (2 * n) := by
  unfold linesI
  rw [zero_len]
  exact map_zero _ _ (fun k => by
    unfold lineI; rw [sum_zero]
    split
    · exact rnd_zero23
    · exact rnd_zero26)
theorem zero_all (n : Nat) : (zeroL n).all (fun x => x == 0) = true := by simp [zeroL]

end Go.Proofs.Ytcmbbmilldhnnaa
/- block's three functions at whatever arguments; noughts. -/
set_option linter.unusedVariables false
set_option linter.unusedSimpArgs false
namespace Go.Proofs.Ytcmbbmilldhnnaa
open Go.ChangeShapes Go.WideShapes Go.ChangeAt Go.RowKit

def shapedB (was shape : Int) : Bool := decide (was ≤ 1) && decide (shape ≤ 1)
def winN (seq was shape : Int) : List Int × Int := if shapedB was shape = false ∨ 3 < seq ∨ seq = 2 then ([], 2) else (winL seq was shape, 0)
def anaE (seq was shape : Int) (pcm : List Int) : Int := askedE seq was shape pcm 512 (-32768) 32767
def synE (seq was shape : Int) (lines : List Int) : Int := askedE seq was shape lines 256 (-268435455) 268435455
def anaN (seq was shape : Int) (pcm : List Int) : List Int × Int := if anaE seq was shape pcm = 0 then (anaL (winsL seq was shape) pcm, 0) else ([], anaE seq was shape pcm)
def synN (seq was shape : Int) (lines : List Int) : List Int × Int := if synE seq was shape lines = 0 then (synL (winsL seq was shape) lines, 0) else ([], synE seq was shape lines)
theorem bad_row {E : Int} {w : World} {e : Ending} {w' : World} (h : e = .returned (.tuple #[.slice none 0 0, .int .i64 E]) ∧ w = w') : RRowE ([], E) w e w' := by
  obtain ⟨rfl, rfl⟩ := h
  exact ⟨_, rfl, World.ownsRow_nil _ _ _ _, Below.refl _ _⟩
theorem win_any (seq was shape : Int) (hs : 0 ≤ seq) (h0 : 0 ≤ was) (h1 : 0 ≤ shape) (w : World) : Calls Try.prog 39 #[.int .u8 seq, .int .u8 was, .int .u8 shape] w (RRowE (winN seq was shape) w) := by
  unfold winN
  by_cases h : shapedB was shape = false
  · rw [if_pos (.inl h)]; exact (win_bad1 seq was shape h w).mono (fun e w' h => bad_row h)
  have h' : shapedB was shape = true := by simpa using h
  by_cases h3 : 3 < seq
  · rw [if_pos (.inr (.inl h3))]; exact (win_bad2 seq was shape h' h3 w).mono (fun e w' h => bad_row h)
  by_cases h2 : seq = 2
  · rw [if_pos (.inr (.inr h2))]; subst h2; exact (win_bad3 was shape h' w).mono (fun e w' h => bad_row h)
  rw [if_neg (by rintro (a | a | a); exact h a; exact h3 a; exact h2 a)]
  unfold shapedB at h'
  simp only [Bool.and_eq_true, decide_eq_true_eq] at h'
  exact win_ok seq was shape (by omega) (by omega) (by omega) w
theorem ana_any (seq was shape : Int) (hs : 0 ≤ seq) (h0 : 0 ≤ was) (h1 : 0 ≤ shape) (pcm : List Int) (hl : pcm.length ≤ 9223372036854775807) (p : Option Addr) (c : Nat) (hc : pcm.length ≤ c) (w : World) (hI : IsInts w p pcm) :
    Calls Try.prog 12 #[.int .u8 seq, .int .u8 was, .int .u8 shape, .slice p pcm.length c] w (RRowE (anaN seq was shape pcm) w) := by
  unfold anaN
  by_cases h : anaE seq was shape pcm = 0
  · rw [if_pos h]
    obtain ⟨a1, a2, a3, a4, a5⟩ := (askedE_zero (by omega)).1 h
    rw [a4]
    refine ana_ok seq was shape (by omega) (by omega) (by omega) pcm a4 (fun j => getD_range a5 (by omega) (by omega) j) p c (by omega) w hI h
  · rw [if_neg h]
    exact ana_bad seq was shape _ pcm.length c p w h (fun W hW => asked_ok seq was shape p c pcm 512 (by omega) hl (-32768) 32767 W (hI.keep hW))
theorem syn_any (seq was shape : Int) (hs : 0 ≤ seq) (h0 : 0 ≤ was) (h1 : 0 ≤ shape) (lines : List Int) (hl : lines.length ≤ 9223372036854775807) (p : Option Addr) (c : Nat) (hc : lines.length ≤ c) (w : World) (hI : IsInts w p lines) :
    Calls Try.prog 19 #[.int .u8 seq, .int .u8 was, .int .u8 shape, .slice p lines.length c] w (RRowE (synN seq was shape lines) w) := by
  unfold synN
  by_cases h : synE seq was shape lines = 0
  · rw [if_pos h]
    obtain ⟨a1, a2, a3, a4, a5⟩ := (askedE_zero (by omega)).1 h
    rw [a4]
    refine syn_ok seq was shape (by omega) (by omega) (by omega) lines a4 (fun j => getD_range a5 (by omega) (by omega) j) p c (by omega) w hI h
  · rw [if_neg h]
    exact syn_bad seq was shape _ lines.length c p w h (fun W hW => asked_ok seq was shape p c lines 256 (by omega) hl (-268435455) 268435455 W (hI.keep hW))
end Go.Proofs.Ytcmbbmilldhnnaa
/- Of noughts, noughts; how long what is made is. -/
set_option linter.unusedVariables false
namespace Go.Proofs.Ytcmbbmilldhnnaa

theorem sumX_nought (z : List Int) (h : ∀ j, z.getD j 0 = 0) (A B : Int) (k : Nat) : sumX z A B k = 0 := by
  unfold sumX
  rw [sumF_congr (g := fun _ => (0 : Int)) k (fun j _ => by rw [h]; simp), sumF_const]
  simp
theorem getD_nought {l : List Int} (h : ∀ x ∈ l, x = 0) (j : Nat) : l.getD j 0 = 0 := by
  have := getD_range (l := l) (a := 0) (b := 0) (fun x hx => by rw [h x hx]; omega) (Int.le_refl _) (Int.le_refl _) j
  omega
theorem rnd_zero14 : rnd 0 14 = 0 := by decide +kernel
theorem linesF_nought (z : List Int) (h : ∀ j, z.getD j 0 = 0) : ∀ x ∈ linesF z, x = 0 := by
  intro x hx
  unfold linesF at hx
  obtain ⟨k, _, rfl⟩ := List.mem_map.1 hx
  unfold lineF
  rw [sumX_nought z h, rnd_zero33]
theorem linesI_nought (z : List Int) (h : ∀ j, z.getD j 0 = 0) : ∀ x ∈ linesI z, x = 0 := by
  intro x hx
  unfold linesI at hx
  obtain ⟨k, _, rfl⟩ := List.mem_map.1 hx
  unfold lineI
  rw [sumX_nought z h]
  split
  · exact rnd_zero23
  · exact rnd_zero26
theorem times_nought (l v : List Int) (b : Nat) (hb : rnd 0 b = 0) (h : ∀ j, l.getD j 0 = 0) : ∀ x ∈ timesL l v b, x = 0 := by
  intro x hx
  unfold timesL at hx
  obtain ⟨k, _, rfl⟩ := List.mem_map.1 hx
  unfold timeV
  rw [h, Int.zero_mul, hb]
theorem cut_nought {pcm : List Int} (h : ∀ x ∈ pcm, x = 0) (p : Int × List Int) : ∀ x ∈ cutF pcm p, x = 0 := by
  intro x hx
  unfold cutF at hx
  exact h x (List.mem_of_mem_drop (List.mem_of_mem_take hx))
theorem ana_nought {pcm : List Int} (h : ∀ x ∈ pcm, x = 0) (ws : List (Int × List Int)) : ∀ x ∈ anaL ws pcm, x = 0 := by
  intro x hx
  unfold anaL at hx
  obtain ⟨p, _, hx⟩ := List.mem_flatMap.1 hx
  exact linesF_nought _ (getD_nought (times_nought _ _ _ rnd_zero14 (getD_nought (cut_nought h p)))) x hx
theorem synP_nought {lines : List Int} (h : ∀ x ∈ lines, x = 0) : ∀ (ws : List (Int × List Int)) (f : Nat → Int), (∀ n, f n = 0) → ∀ n, (ws.foldl stepS (f, lines)).1 n = 0 := by
  intro ws
  induction ws generalizing lines with
  | nil => intro f hf n; exact hf n
  | cons p ws ih =>
    intro f hf n
    rw [List.foldl_cons]
    unfold stepS
    simp only
    refine ih (fun x hx => h x (List.mem_of_mem_drop hx)) _ (fun m => ?_) n
    rw [hf]
    unfold addS partS
    split
    · rw [getD_nought (times_nought _ _ _ rnd_zero26 (getD_nought (linesI_nought _ (getD_nought (fun x hx => h x (List.mem_of_mem_take hx)))))) _]; rfl
    · rfl
theorem syn_nought {lines : List Int} (h : ∀ x ∈ lines, x = 0) (ws : List (Int × List Int)) : ∀ x ∈ synL ws lines, x = 0 := by
  intro x hx
  unfold synL at hx
  obtain ⟨n, _, rfl⟩ := List.mem_map.1 hx
  exact synP_nought h ws _ (fun _ => rfl) n
theorem zero_mem (n : Nat) : ∀ x ∈ zeroL n, x = 0 := by
  intro x hx; exact List.eq_of_mem_replicate hx
theorem eq_zeroL {l : List Int} {n : Nat} (h : ∀ x ∈ l, x = 0) (hl : l.length = n) : l = zeroL n := by
  unfold zeroL
  exact List.eq_replicate_iff.2 ⟨hl, h⟩
theorem synL_len (ws : List (Int × List Int)) (lines : List Int) : (synL ws lines).length = 512 := by unfold synL; simp
theorem under_len {pcm : List Int} {p : Int × List Int} {k : Nat} (h : WinFit k p) (hl : pcm.length = 512) : (underL pcm p).length = p.2.length := by
  unfold underL; rw [timesL_len]; exact cutF_len h hl
theorem linesF_length (z : List Int) : (linesF z).length = z.length / 2 := by unfold linesF; simp
theorem anaL_all (pcm : List Int) (c : Nat) : ∀ ws : List (Int × List Int), (∀ p ∈ ws, (linesF (underL pcm p)).length = c) → (anaL ws pcm).length = c * ws.length
  | [], _ => by simp [anaL]
  | p :: ws, h => by
    have ih := anaL_all pcm c ws (fun q hq => h q (List.mem_cons_of_mem _ hq))
    have := h p List.mem_cons_self
    rw [show anaL (p :: ws) pcm = linesF (underL pcm p) ++ anaL ws pcm by simp [anaL], List.length_append, ih, this, List.length_cons, Nat.mul_add]
    omega
theorem wins_count (seq was shape : Int) : (winsL seq was shape).length = if seq = 2 then 8 else 1 := by
  unfold winsL
  split
  · simp
  · rfl
theorem ana_length (seq was shape : Int) (hs : seq = 0 ∨ seq = 1 ∨ seq = 2 ∨ seq = 3) (h0 : was = 0 ∨ was = 1) (h1 : shape = 0 ∨ shape = 1) (pcm : List Int) (hl : pcm.length = 512) : (anaL (winsL seq was shape) pcm).length = 256 := by
  have key : ∀ p ∈ winsL seq was shape, ∃ k, WinFit k p := by
    intro p hp
    obtain ⟨k, hk, rfl⟩ := List.getElem_of_mem hp
    exact ⟨k, wins_fit seq was shape hs h0 h1 k _ (List.getElem?_eq_getElem hk)⟩
  obtain ⟨H, hH, hW⟩ := wins_uni seq was shape hs h0 h1
  rw [anaL_all pcm H]
  · rw [wins_count]
    by_cases h2 : seq = 2
    · rw [if_pos h2]
      have := hW 0 _ (List.getElem?_eq_getElem (by rw [wins_count, if_pos h2]; omega))
      have e : ((winsL seq was shape)[0]'(by rw [wins_count, if_pos h2]; omega)).2.length = 64 := by
        simp only [winsL, if_pos h2, List.getElem_map]
        exact little_len _ _ _
      omega
    · rw [if_neg h2]
      have := hW 0 _ (List.getElem?_eq_getElem (by rw [wins_count, if_neg h2]; omega))
      have e : ((winsL seq was shape)[0]'(by rw [wins_count, if_neg h2]; omega)).2.length = 512 := by
        simp only [winsL, if_neg h2, List.getElem_cons_zero]
        exact winL_len seq was shape (by omega)
      omega
  · intro p hp
    obtain ⟨k, hk, rfl⟩ := List.getElem_of_mem hp
    obtain ⟨hf, h2, _⟩ := hW k _ (List.getElem?_eq_getElem hk)
    rw [linesF_length, under_len hf hl]
    omega
theorem zero_asked (seq was shape : Int) (n : Nat) (lo hi : Int) (hn : 0 < n) (hs : seq ≤ 3) (h0 : was ≤ 1) (h1 : shape ≤ 1) (hlo : lo ≤ 0) (hhi : 0 ≤ hi) : askedE seq was shape (zeroL n) n lo hi = 0 := by
  refine (askedE_zero hn).2 ⟨hs, h0, h1, zero_len n, fun x hx => ?_⟩
  rw [zero_mem n x hx]; exact ⟨hlo, hhi⟩
theorem ana_zero (seq was shape : Int) (hs : seq = 0 ∨ seq = 1 ∨ seq = 2 ∨ seq = 3) (h0 : was = 0 ∨ was = 1) (h1 : shape = 0 ∨ shape = 1) : anaN seq was shape (zeroL 512) = (zeroL 256, 0) := by
  unfold anaN anaE
  rw [if_pos (zero_asked seq was shape 512 _ _ (by omega) (by omega) (by omega) (by omega) (by omega) (by omega)), eq_zeroL (ana_nought (zero_mem 512) _) (ana_length seq was shape hs h0 h1 _ (zero_len 512))]
theorem syn_zero (seq was shape : Int) (hs : seq = 0 ∨ seq = 1 ∨ seq = 2 ∨ seq = 3) (h0 : was = 0 ∨ was = 1) (h1 : shape = 0 ∨ shape = 1) : synN seq was shape (zeroL 256) = (zeroL 512, 0) := by
  unfold synN synE
  rw [if_pos (zero_asked seq was shape 256 _ _ (by omega) (by omega) (by omega) (by omega) (by omega) (by omega)), eq_zeroL (syn_nought (zero_mem 256) _) (synL_len _ _)]
end Go.Proofs.Ytcmbbmilldhnnaa
/- Values of windows by their places. -/
set_option linter.unusedVariables false
set_option linter.unusedSimpArgs false
namespace Go.Proofs.Ytcmbbmilldhnnaa
open Go.ChangeShapes Go.WideShapes Go.ChangeAt Go.RowKit

theorem getD_left {a b : List Int} {j : Nat} (h : j < a.length) : (a ++ b).getD j 0 = a.getD j 0 := by
  rw [List.getD_eq_getElem?_getD, List.getD_eq_getElem?_getD, List.getElem?_append_left h]
theorem getD_right {a b : List Int} {j n : Nat} (h : a.length = n) (hj : n ≤ j) : (a ++ b).getD j 0 = b.getD (j - n) 0 := by
  subst h
  rw [List.getD_eq_getElem?_getD, List.getD_eq_getElem?_getD, List.getElem?_append_right hj]
theorem hv_len256 (s : Int) : (hvL s false).length = 256 := half_length s false
theorem hv_len32 (s : Int) : (hvL s true).length = 32 := half_length s true
theorem getD_const {l : List Int} {n : Nat} {c : Int} (h : l = List.replicate n c) {j : Nat} (hj : j < n) : l.getD j 0 = c := by
  subst h; rw [List.getD_eq_getElem?_getD, List.getElem?_replicate_of_lt hj]; rfl
theorem start_300 : (winL 1 0 0).getD 300 0 = 4194304 := by
  rw [win1, getD_right (hv_len256 0) (by omega), getD_left (by rw [repL_len]; omega)]
  exact getD_const (n := 112) rfl (by omega)
theorem start_511 : (winL 1 0 0).getD 511 0 = 0 := by
  rw [win1, getD_right (hv_len256 0) (by omega), getD_right (repL_len _) (by omega), getD_right (n := 32) (by rw [List.length_reverse, hv_len32]) (by omega)]
  exact getD_const (n := 112) rfl (by omega)
theorem start_0 : 0 < (winL 1 0 0).getD 0 0 := by
  rw [win1, getD_left (by rw [hv_len256]; omega), hv_tab 0 false (.inl rfl)]
  show 0 < sineTabL.getD 0 0
  have h := List.all_eq_true.1 pow_sineL 0 (List.mem_range.2 (by omega))
  unfold powOk at h
  simp only [Bool.and_eq_true, decide_eq_true_eq] at h
  exact h.1.1.1.1
end Go.Proofs.Ytcmbbmilldhnnaa
