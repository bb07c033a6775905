/- The document's roots: all primes. Conditions: none. -/
import Derived.Test.YtdegeodegjmddaaZRooB1
import Derived.Test.YtdegeodegjmddaaZRooB2
import Derived.Test.YtdegeodegjmddaaZRooB3
import Derived.Test.YtdegeodegjmddaaZRooB4
namespace Go.Proofs.Ytdegeodegjmddaa.Roo
open Go.RowKit Go.Proofs.YtdegeodegjmddaaW.PrintWords Go.Proofs.Ytdegeodegjmddaa.PRoo
set_option maxRecDepth 100000
set_option linter.unusedVariables false
set_option linter.unusedSimpArgs false
def steps : List (Option (Int × Int)) := [some (6074000999, 5411319704), some (7439101573, 6194414737), none, some (9603838834, 7344290767), none, some (11363415354, 8215976869), none, none, none, some (14244795007, 9551921755), none, some (15485724812, 10098905585), none, none, none, some (17708603819, 11043570340), none, some (18721328409, 11460697813), none, none, none, some (20597939549, 12214315672), none, none, none, none, none, some (23129106730, 13195500289), none, some (23913365850, 13492127166), none, none, none, none, none, some (26125266136, 14311783875), none, none, none, some (27501209191, 14809980276), none, some (28163984007, 15046980094), none, none, none, some (29444812301, 15499789991), none, none, none, none, none, some (31267833885, 16133124468), none, none, none, none, none, some (32990269782, 16720292289), none, some (33544766931, 16907126662), none, none, none, none, none, some (35155822461, 17444216262), none, none, none, some (36190037706, 17784676812), none, some (36696216663, 17950125167), none, none, none, none, none, some (38174504342, 18429019306), none, none, none, some (39129014274, 18734950876), none, none, none, none, none, some (40518640433, 19175934170), none, none, none, none, none, none, none, some (42300522161, 19734090066), none, none, none, some (43163887121, 20001703533), none, some (43589157362, 20132865992), none, none, none, some (44427487166, 20390182855), none, some (44840775015, 20516441075), none, none, none, some (45656128617, 20764397895), none, none, none, none, none, none, none, none, none, none, none, none, none, some (48401823285, 21588763473), none, none, none, some (49158147581, 21813078375), none, none, none, none, none, some (50271303326, 22141143685), none, some (50636917621, 22248366392), none, none, none, none, none, none, none, none, none, some (52426757166, 22769593852), none, some (52777441725, 22871018771), none, none, none, none, none, some (53815785970, 23170020180), none, none, none, none, none, some (54834471676, 23461497531), none, none, none, some (55503209459, 23651862830), none, none, none, none, none, some (56491474797, 23931792517), none, none, none, none, none, some (57462746098, 24205322401), none, some (57782875294, 24295138891), none, none, none, none, none, none, none, none, none, some (59357628979, 24734567280), none, some (59667592596, 24820601251), none, none, none, some (60282738678, 24990902297), none, some (60587969685, 25075189284), none, none, none, none, none, none, none, none, none, none, none, some (62388003650, 25569408389), none, none, none, none, none, none, none, none, none, none, none, some (64137539151, 26045227120), none, none, none, some (64710207113, 26200031510), none, some (64994648955, 26276752392), none, none, none, some (65559830454, 26428864332), none, none, none, none, none, some (66398583069, 26653801653), none, some (66675822617, 26727943347), none, none, none, none, none, none, none, none, none, some (68045078899, 27092625994), none, none, none, none, none, some (68853563647, 27306805839), none, none, none, none, none, some (69652664639, 27517677555), none, none, none, none, none, some (70442701224, 27725365998), none, some (70704085058, 27793908591), none, none, none, none, none, some (71482502113, 27997534228), none, none, none, some (71996771349, 28131656200), none, some (72252533331, 28198240250), none, none, none, none, none, none, none, none, none, some (73517997888, 28526537963), none, none, none, none, none, none, none, none, none, none, none, none, none, some (75253906414, 28973835255), none, none, none, some (75742573278, 29099129074)]
theorem flags : ∀ i, i < 310 → fl ((2 + i : Nat) : Int) 20 true 2 = some ((steps.getD i none).isSome) := by decide +kernel
def primesL : List Nat := [2, 3, 5, 7, 11, 13, 17, 19, 23, 29, 31, 37, 41, 43, 47, 53, 59, 61, 67, 71, 73, 79, 83, 89, 97, 101, 103, 107, 109, 113, 127, 131, 137, 139, 149, 151, 157, 163, 167, 173, 179, 181, 191, 193, 197, 199, 211, 223, 227, 229, 233, 239, 241, 251, 257, 263, 269, 271, 277, 281, 283, 293, 307, 311]
theorem steps_prime : ∀ i, i < 310 → ∀ r, steps.getD i none = some r → ∃ j, j < 64 ∧ primesL.getD j 0 = 2 + i := by
  intro i hi
  have h : ∀ i, i < 310 → (steps.getD i none).isSome = true → ∃ j, j < 64 ∧ primesL.getD j 0 = 2 + i := by decide +kernel
  intro r hr
  exact h i hi (by rw [hr]; rfl)
theorem good : ∀ (i : Nat) s, steps[i]? = some s → Good ((2 + i : Nat) : Int) s := by
  intro i s h
  have hi : i < 310 := (List.getElem?_eq_some_iff.1 h).1
  have hf := flags i hi
  have hs : steps.getD i none = s := by rw [List.getD_eq_getElem?_getD, h]; rfl
  rw [hs] at hf
  cases s with
  | none => exact hf
  | some r =>
    refine ⟨hf, ?_⟩
    obtain ⟨j, hj, hp⟩ := steps_prime i hi r hs
    have hi2 : i = primesL.getD j 0 - 2 := by omega
    subst hi2
    clear h hf hp hi
    match j, hj with
    | 0, _ => obtain rfl : (6074000999, 5411319704) = r := Option.some.inj hs; exact r0
    | 1, _ => obtain rfl : (7439101573, 6194414737) = r := Option.some.inj hs; exact r1
    | 2, _ => obtain rfl : (9603838834, 7344290767) = r := Option.some.inj hs; exact r2
    | 3, _ => obtain rfl : (11363415354, 8215976869) = r := Option.some.inj hs; exact r3
    | 4, _ => obtain rfl : (14244795007, 9551921755) = r := Option.some.inj hs; exact r4
    | 5, _ => obtain rfl : (15485724812, 10098905585) = r := Option.some.inj hs; exact r5
    | 6, _ => obtain rfl : (17708603819, 11043570340) = r := Option.some.inj hs; exact r6
    | 7, _ => obtain rfl : (18721328409, 11460697813) = r := Option.some.inj hs; exact r7
    | 8, _ => obtain rfl : (20597939549, 12214315672) = r := Option.some.inj hs; exact r8
    | 9, _ => obtain rfl : (23129106730, 13195500289) = r := Option.some.inj hs; exact r9
    | 10, _ => obtain rfl : (23913365850, 13492127166) = r := Option.some.inj hs; exact r10
    | 11, _ => obtain rfl : (26125266136, 14311783875) = r := Option.some.inj hs; exact r11
    | 12, _ => obtain rfl : (27501209191, 14809980276) = r := Option.some.inj hs; exact r12
    | 13, _ => obtain rfl : (28163984007, 15046980094) = r := Option.some.inj hs; exact r13
    | 14, _ => obtain rfl : (29444812301, 15499789991) = r := Option.some.inj hs; exact r14
    | 15, _ => obtain rfl : (31267833885, 16133124468) = r := Option.some.inj hs; exact r15
    | 16, _ => obtain rfl : (32990269782, 16720292289) = r := Option.some.inj hs; exact r16
    | 17, _ => obtain rfl : (33544766931, 16907126662) = r := Option.some.inj hs; exact r17
    | 18, _ => obtain rfl : (35155822461, 17444216262) = r := Option.some.inj hs; exact r18
    | 19, _ => obtain rfl : (36190037706, 17784676812) = r := Option.some.inj hs; exact r19
    | 20, _ => obtain rfl : (36696216663, 17950125167) = r := Option.some.inj hs; exact r20
    | 21, _ => obtain rfl : (38174504342, 18429019306) = r := Option.some.inj hs; exact r21
    | 22, _ => obtain rfl : (39129014274, 18734950876) = r := Option.some.inj hs; exact r22
    | 23, _ => obtain rfl : (40518640433, 19175934170) = r := Option.some.inj hs; exact r23
    | 24, _ => obtain rfl : (42300522161, 19734090066) = r := Option.some.inj hs; exact r24
    | 25, _ => obtain rfl : (43163887121, 20001703533) = r := Option.some.inj hs; exact r25
    | 26, _ => obtain rfl : (43589157362, 20132865992) = r := Option.some.inj hs; exact r26
    | 27, _ => obtain rfl : (44427487166, 20390182855) = r := Option.some.inj hs; exact r27
    | 28, _ => obtain rfl : (44840775015, 20516441075) = r := Option.some.inj hs; exact r28
    | 29, _ => obtain rfl : (45656128617, 20764397895) = r := Option.some.inj hs; exact r29
    | 30, _ => obtain rfl : (48401823285, 21588763473) = r := Option.some.inj hs; exact r30
    | 31, _ => obtain rfl : (49158147581, 21813078375) = r := Option.some.inj hs; exact r31
    | 32, _ => obtain rfl : (50271303326, 22141143685) = r := Option.some.inj hs; exact r32
    | 33, _ => obtain rfl : (50636917621, 22248366392) = r := Option.some.inj hs; exact r33
    | 34, _ => obtain rfl : (52426757166, 22769593852) = r := Option.some.inj hs; exact r34
    | 35, _ => obtain rfl : (52777441725, 22871018771) = r := Option.some.inj hs; exact r35
    | 36, _ => obtain rfl : (53815785970, 23170020180) = r := Option.some.inj hs; exact r36
    | 37, _ => obtain rfl : (54834471676, 23461497531) = r := Option.some.inj hs; exact r37
    | 38, _ => obtain rfl : (55503209459, 23651862830) = r := Option.some.inj hs; exact r38
    | 39, _ => obtain rfl : (56491474797, 23931792517) = r := Option.some.inj hs; exact r39
    | 40, _ => obtain rfl : (57462746098, 24205322401) = r := Option.some.inj hs; exact r40
    | 41, _ => obtain rfl : (57782875294, 24295138891) = r := Option.some.inj hs; exact r41
    | 42, _ => obtain rfl : (59357628979, 24734567280) = r := Option.some.inj hs; exact r42
    | 43, _ => obtain rfl : (59667592596, 24820601251) = r := Option.some.inj hs; exact r43
    | 44, _ => obtain rfl : (60282738678, 24990902297) = r := Option.some.inj hs; exact r44
    | 45, _ => obtain rfl : (60587969685, 25075189284) = r := Option.some.inj hs; exact r45
    | 46, _ => obtain rfl : (62388003650, 25569408389) = r := Option.some.inj hs; exact r46
    | 47, _ => obtain rfl : (64137539151, 26045227120) = r := Option.some.inj hs; exact r47
    | 48, _ => obtain rfl : (64710207113, 26200031510) = r := Option.some.inj hs; exact r48
    | 49, _ => obtain rfl : (64994648955, 26276752392) = r := Option.some.inj hs; exact r49
    | 50, _ => obtain rfl : (65559830454, 26428864332) = r := Option.some.inj hs; exact r50
    | 51, _ => obtain rfl : (66398583069, 26653801653) = r := Option.some.inj hs; exact r51
    | 52, _ => obtain rfl : (66675822617, 26727943347) = r := Option.some.inj hs; exact r52
    | 53, _ => obtain rfl : (68045078899, 27092625994) = r := Option.some.inj hs; exact r53
    | 54, _ => obtain rfl : (68853563647, 27306805839) = r := Option.some.inj hs; exact r54
    | 55, _ => obtain rfl : (69652664639, 27517677555) = r := Option.some.inj hs; exact r55
    | 56, _ => obtain rfl : (70442701224, 27725365998) = r := Option.some.inj hs; exact r56
    | 57, _ => obtain rfl : (70704085058, 27793908591) = r := Option.some.inj hs; exact r57
    | 58, _ => obtain rfl : (71482502113, 27997534228) = r := Option.some.inj hs; exact r58
    | 59, _ => obtain rfl : (71996771349, 28131656200) = r := Option.some.inj hs; exact r59
    | 60, _ => obtain rfl : (72252533331, 28198240250) = r := Option.some.inj hs; exact r60
    | 61, _ => obtain rfl : (73517997888, 28526537963) = r := Option.some.inj hs; exact r61
    | 62, _ => obtain rfl : (75253906414, 28973835255) = r := Option.some.inj hs; exact r62
    | 63, _ => obtain rfl : (75742573278, 29099129074) = r := Option.some.inj hs; exact r63
    | j + 64, hj => exact absurd hj (by omega)
def SQ : List Int := [1779033703, 3144134277, 1013904242, 2773480762, 1359893119, 2600822924, 528734635, 1541459225, 3418070365, 1654270250, 2438529370, 355462360, 1731405415, 2394180231, 3675008525, 1203062813, 2925498710, 3479995859, 796084093, 1830299338, 2336478295, 3814765974, 474308610, 1863934769, 3645816497, 214214161, 639484402, 1477814206, 1891102055, 2706455657, 1157183029, 1913507325, 3026663070, 3392277365, 887149614, 1237834173, 2276178418, 3294864124, 3963601907, 656899949, 1628171250, 1948300446, 3523054131, 3833017748, 153196534, 458427541, 2258461506, 4007997007, 285697673, 570139515, 1135321014, 1974073629, 2251313177, 3620569459, 134086911, 933187903, 1723224488, 1984608322, 2763025377, 3277294613, 3533056595, 503553856, 2239462382, 2728129246]
def CU : List Int := [1116352408, 1899447441, 3049323471, 3921009573, 961987163, 1508970993, 2453635748, 2870763221, 3624381080, 310598401, 607225278, 1426881987, 1925078388, 2162078206, 2614888103, 3248222580, 3835390401, 4022224774, 264347078, 604807628, 770255983, 1249150122, 1555081692, 1996064986, 2554220882, 2821834349, 2952996808, 3210313671, 3336571891, 3584528711, 113926993, 338241895, 666307205, 773529912, 1294757372, 1396182291, 1695183700, 1986661051, 2177026350, 2456956037, 2730485921, 2820302411, 3259730800, 3345764771, 3516065817, 3600352804, 4094571909, 275423344, 430227734, 506948616, 659060556, 883997877, 958139571, 1322822218, 1537002063, 1747873779, 1955562222, 2024104815, 2227730452, 2361852424, 2428436474, 2756734187, 3204031479, 3329325298]
theorem lens : ∀ i, i < 310 → ((steps.take i).flatMap fun s => s.toList.map fun r => cut r.1).length < 64 ∧ ((steps.take i).flatMap fun s => s.toList.map fun r => cut r.2).length < 64 := by decide +kernel
theorem sq_all : (steps.flatMap fun s => s.toList.map fun r => cut r.1) = SQ := by decide +kernel
theorem cu_all : (steps.flatMap fun s => s.toList.map fun r => cut r.2) = CU := by decide +kernel
theorem roots_f : ∃ k, hamperref07_Roots.f k = some (SQ, CU) := by
  obtain ⟨j, hj⟩ := all_l0 steps 2 [] [] good (Nat.le_refl _) (by decide) (fun i hi => by
    have := lens i hi
    simpa using this)
  refine ⟨101 + j, ?_⟩
  have h := hj 101 (by decide)
  show hamperref07_Roots.l0 (101 + j) [] [] 2 = _
  rw [show (2 : Int) = ((2 : Nat) : Int) from rfl, h, List.nil_append, List.nil_append, sq_all, cu_all, hamperref07_Roots.l0, if_neg (by decide)]
end Go.Proofs.Ytdegeodegjmddaa.Roo
