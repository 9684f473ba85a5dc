/- Markov's triples up to 10 to the power of 18, and the plain laws of the search through their tree. -/
namespace Go.Proofs.Ytgocnjklpafabaa

abbrev T3 := Nat × Nat × Nat
/-- the neighbour over the first and the last number, and the one over the second and the last, where they are not too great -/
def kid1 (t : T3) : List T3 := if 1000000000000000000 / t.2.2 / 3 < t.1 then [] else [(t.1, t.2.2, 3 * t.1 * t.2.2 - t.2.1)]
def kid2 (t : T3) : List T3 := if 1000000000000000000 / t.2.2 / 3 < t.2.1 then [] else [(t.2.1, t.2.2, 3 * t.2.1 * t.2.2 - t.1)]
def kids (t : T3) : List T3 := kid1 t ++ kid2 t
/-- the search: what is too great or was there is passed over -/
def dfs (most : Nat) : Nat → T3 → List T3 → List T3
  | 0, _, acc => acc
  | f + 1, t, acc => if most < t.2.2 ∨ t ∈ acc then acc else (kids t).foldl (fun a k => dfs most f k a) (acc ++ [t])

def TT : List T3 := [
  (1, 1, 1), (1, 1, 2), (1, 2, 5), (1, 5, 13),
  (2, 5, 29), (1, 13, 34), (1, 34, 89), (2, 29, 169),
  (5, 13, 194), (1, 89, 233), (5, 29, 433), (1, 233, 610),
  (2, 169, 985), (13, 34, 1325), (1, 610, 1597), (5, 194, 2897),
  (1, 1597, 4181), (2, 985, 5741), (5, 433, 6466), (13, 194, 7561),
  (34, 89, 9077), (1, 4181, 10946), (29, 169, 14701), (1, 10946, 28657),
  (2, 5741, 33461), (29, 433, 37666), (5, 2897, 43261), (13, 1325, 51641),
  (89, 233, 62210), (1, 28657, 75025), (5, 6466, 96557), (34, 1325, 135137),
  (2, 33461, 195025), (1, 75025, 196418), (13, 7561, 294685), (233, 610, 426389),
  (169, 985, 499393), (1, 196418, 514229), (5, 43261, 646018), (34, 9077, 925765),
  (2, 195025, 1136689), (29, 14701, 1278818), (1, 514229, 1346269), (5, 96557, 1441889),
  (194, 2897, 1686049), (13, 51641, 2012674), (89, 9077, 2423525), (610, 1597, 2922509),
  (29, 37666, 3276509), (1, 1346269, 3524578), (194, 7561, 4400489), (2, 1136689, 6625109),
  (169, 14701, 7453378), (433, 6466, 8399329), (1, 3524578, 9227465), (5, 646018, 9647009),
  (13, 294685, 11485154), (34, 135137, 13782649), (89, 62210, 16609837), (985, 5741, 16964653),
  (1597, 4181, 20031170), (5, 1441889, 21531778), (1, 9227465, 24157817), (2, 6625109, 38613965),
  (233, 62210, 43484701), (433, 37666, 48928105), (1, 24157817, 63245986), (13, 2012674, 78442645),
  (34, 925765, 94418953), (29, 1278818, 111242465), (4181, 10946, 137295677), (5, 9647009, 144059117),
  (1, 63245986, 165580141), (1325, 51641, 205272962), (2, 38613965, 225058681), (169, 499393, 253191266),
  (29, 3276509, 285018617), (233, 426389, 298045301), (5, 21531778, 321534781), (2897, 43261, 375981346),
  (1, 165580141, 433494437), (13, 11485154, 447626321), (1325, 135137, 537169541), (5741, 33461, 576298801),
  (89, 2423525, 647072098), (610, 426389, 780291637), (10946, 28657, 941038565), (194, 1686049, 981277621),
  (1, 433494437, 1134903170), (2, 225058681, 1311738121), (34, 13782649, 1405695061), (985, 499393, 1475706146),
  (6466, 96557, 1873012681), (5, 144059117, 2151239746), (194, 4400489, 2561077037), (1, 1134903170, 2971215073),
  (13, 78442645, 3057250481), (169, 7453378, 3778847945), (89, 16609837, 4434764269), (5, 321534781, 4801489937),
  (610, 2922509, 5348189873), (28657, 75025, 6449974274), (7561, 294685, 6684339842), (2, 1311738121, 7645370045),
  (1, 2971215073, 7778742049), (34, 94418953, 9629807441), (29, 111242465, 9676815637), (433, 8399329, 10910721905),
  (1597, 2922509, 14001740009), (2897, 1686049, 14653451665), (13, 447626321, 17445941365), (33461, 195025, 19577194573),
  (1, 7778742049, 20365011074), (29, 285018617, 24793343170), (9077, 925765, 25209506681), (233, 43484701, 30395743789),
  (5, 2151239746, 32124537073), (75025, 196418, 44208781349), (2, 7645370045, 44560482149), (985, 16964653, 50130543874),
  (1, 20365011074, 53316291173), (14701, 1278818, 56399710225), (433, 48928105, 63557570729), (9077, 2423525, 65995009186),
  (5, 4801489937, 71700814274), (43261, 646018, 83842154089), (1597, 20031170, 95969331289), (7561, 4400489, 99816291793),
  (13, 3057250481, 119154326114), (169, 253191266, 128367472469), (1, 53316291173, 139583862445), (34, 1405695061, 143367113573),
  (6466, 8399329, 162930183509), (89, 647072098, 172765826641), (233, 298045301, 208333239010), (4181, 20031170, 251250963713),
  (2, 44560482149, 259717522849), (5741, 16964653, 292182217634), (196418, 514229, 303011495165), (51641, 2012674, 311809494089),
  (14701, 7453378, 328716329765), (1, 139583862445, 365435296162), (37666, 3276509, 370238963953), (96557, 1441889, 417673428514),
  (5, 32124537073, 479716816349), (194, 981277621, 571101889373), (195025, 1136689, 665048316673), (13, 17445941365, 679944086914),
  (1325, 205272962, 815959972309), (29, 9676815637, 841771717954), (1, 365435296162, 956722026041), (34, 9629807441, 982145940029),
  (5, 71700814274, 1070710724173), (89, 4434764269, 1184065449986), (610, 780291637, 1427933269321), (194, 2561077037, 1490542435045),
  (2, 259717522849, 1513744654945), (4181, 137295677, 1722099665665), (169, 3778847945, 1915868454737), (514229, 1346269, 2076871684802),
  (1325, 537169541, 2135248790338), (29, 24793343170, 2156735837173), (1, 956722026041, 2504730781961), (62210, 16609837, 3099893879221),
  (2897, 375981346, 3267653834825), (985, 1475706146, 4360711162037), (10946, 137295677, 4508515437145), (13, 119154326114, 4643961467965),
  (37666, 48928105, 5528778008357), (135137, 13782649, 5587637513705), (1, 2504730781961, 6557470319842), (5, 479716816349, 7163627708162),
  (62210, 43484701, 8115549747397), (2, 1513744654945, 8822750406821), (610, 5348189873, 9787184545081), (5741, 576298801, 9925594216162),
  (294685, 11485154, 10153507819457), (433, 10910721905, 14173019355266), (1346269, 3524578, 14235090298445), (34, 143367113573, 14622039889385),
  (5, 1070710724173, 15988960048321), (1, 6557470319842, 17167680177565), (646018, 9647009, 18696424380481), (233, 30395743789, 21246581423810),
  (1136689, 6625109, 22592065572301), (13, 679944086914, 26500373448281), (10946, 941038565, 30901824368813), (51641, 205272962, 31801503090601),
  (6466, 1873012681, 36332699889481), (1, 17167680177565, 44945570212853), (89, 172765826641, 46127828641049), (43261, 375981346, 48795987025021),
  (2, 8822750406821, 51422757785981), (33461, 576298801, 57850602535042), (169, 128367472469, 65082055350517), (1597, 14001740009, 67082333460610),
  (29, 841771717954, 73224462646361), (28657, 941038565, 80902026460669), (433, 63557570729, 82561235448866), (1441889, 21531778, 93139301545921),
  (3524578, 9227465, 97568760404309), (34, 982145940029, 100169256075517), (5, 7163627708162, 106974698806081), (1, 44945570212853, 117669030460994),
  (2897, 14653451665, 127353146734466), (233, 208333239010, 145624636022689), (985, 50130543874, 148135740183017), (7561, 6684339842, 151620880341401),
  (13, 4643961467965, 180995342924521), (29, 2156735837173, 187611224490881), (135137, 537169541, 217774440785026), (5, 15988960048321, 238763690000642),
  (925765, 94418953, 262229286072101), (2, 51422757785981, 299713796309065), (1, 117669030460994, 308061521170129), (89, 1184065449986, 316141040381993),
  (194, 571101889373, 332380318337465), (499393, 253191266, 379325837704445), (426389, 298045301, 381249713544034), (1278818, 111242465, 426776599819081),
  (1597, 95969331289, 459789046174429), (2012674, 78442645, 473638416248177), (96557, 1873012681, 542557456311485), (28657, 6449974274, 554510738235029),
  (9227465, 24157817, 668746232531714), (9077, 25209506681, 686480075504546), (6625109, 38613965, 767465181141553), (1, 308061521170129, 806515533049393),
  (194, 1490542435045, 867493136119153), (169, 1915868454737, 971341527703714), (426389, 780291637, 998123312425769), (13, 26500373448281, 1032834620396045),
  (75025, 6449974274, 1451727959691893), (34, 14622039889385, 1491304701603697), (5, 106974698806081, 1597456854383053), (2, 299713796309065, 1746860020068409),
  (9077, 65995009186, 1797110092720441), (33461, 19577194573, 1965217522626434), (1, 806515533049393, 2111485077978050), (499393, 1475706146, 2210871958107149),
  (7561, 99816291793, 2264132942340130), (14701, 56399710225, 2487396418774357), (610, 1427933269321, 2613117102565793), (3276509, 285018617, 2801598191304130),
  (4181, 251250963713, 3151440817820989), (6466, 162930183509, 3160519691308253), (1325, 815959972309, 3243440684655313), (5, 238763690000642, 3565466389961309),
  (9647009, 144059117, 4169218794693154), (24157817, 63245986, 4583654867317685), (2423525, 647072098, 4704586218916261), (1686049, 981277621, 4963446454828093),
  (5741, 292182217634, 5032254317345729), (1, 2111485077978050, 5527939700884757), (294685, 6684339842, 5909324059011749), (29, 73224462646361, 6369686478515453),
  (13, 180995342924521, 7054174412588354), (1325, 2135248790338, 8487613404424009), (75025, 44208781349, 9950291461929757), (2, 1746860020068409, 10181446324101389),
  (34, 100169256075517, 10216281973762705), (43261, 83842154089, 10881286283486669), (195025, 19577194573, 11454127114764514), (89, 46127828641049, 12315957481333442),
  (985, 4360711162037, 12885900008113189), (1, 5527939700884757, 14472334024676221), (14701, 328716329765, 14497376284172417), (233, 21246581423810, 14851330019499401),
  (11485154, 447626321, 15423171693415289), (29, 187611224490881, 16320019794869474), (610, 9787184545081, 17910542369308357), (433, 14173019355266, 18410741231768629),
  (21531778, 321534781, 20769646571311849), (4181, 1722099665665, 21600295969140418), (5, 1597456854383053, 23854878116939714), (196418, 44208781349, 26050201244948621),
  (38613965, 225058681, 26071224093240493), (2897, 3267653834825, 28399179102482729), (63245986, 165580141, 31416837838692077), (169, 65082055350517, 32996473695239650),
  (4400489, 2561077037, 33809973988413085), (1, 14472334024676221, 37889062373143906), (13, 1032834620396045, 40254049821997474), (37666, 370238963953, 41836262445484585),
  (2922509, 5348189873, 46890399112653461), (51641, 311809494089, 48306462250737473), (5, 3565466389961309, 53243232159418993), (13782649, 1405695061, 58122604880389733),
  (2, 10181446324101389, 59341817924539925), (925765, 25209506681, 70014236857598818), (1686049, 14653451665, 74119312578961858), (89, 316141040381993, 84408473716542145),
  (7453378, 3778847945, 84495546415824461), (1, 37889062373143906, 99194853094755497), (233, 145624636022689, 101791412246620601), (433, 82561235448866, 107246981290506205),
  (96557, 417673428514, 120987879709637005), (2922509, 14001740009, 122760633575886146), (10946, 4508515437145, 148050629787671833), (34, 1491304701603697, 152098457523687709),
  (646018, 83842154089, 162490622100759545), (5741, 9925594216162, 170948508608659325), (196418, 303011495165, 178550735571442681), (194, 332380318337465, 193444774170515257),
  (165580141, 433494437, 215334210003526850), (1278818, 56399710225, 216374893891527449), (16609837, 4434764269, 220982134924542370), (1, 99194853094755497, 259695496911122585),
  (8399329, 10910721905, 274928228722804802), (13, 7054174412588354, 274931806748021285), (1597, 67082333460610, 321391445608042501), (2, 59341817924539925, 345869461223138161),
  (5, 23854878116939714, 356225714899712657), (195025, 665048316673, 389103143876318786), (985, 148135740183017, 437741062110271361), (514229, 303011495165, 467451894441411937),
  (2423525, 65995009186, 479821663912492873), (169, 971341527703714, 492468238677328261), (194, 867493136119153, 504879514678912001), (29, 6369686478515453, 554089499168198050),
  (62210, 3099893879221, 578533194662405393), (37666, 5528778008357, 624740857339396181), (1, 259695496911122585, 679891637638612258), (6466, 36332699889481, 704781710583139757),
  (78442645, 3057250481, 719456442471486722), (5, 53243232159418993, 795083016001323586), (225058681, 1311738121, 885654153989035201), (144059117, 2151239746, 929717094792192841)]

def okT (t : T3) : Bool := decide (1 ≤ t.1) && decide (t.1 ≤ t.2.1) && decide (t.2.1 ≤ t.2.2) && decide (t.2.2 ≤ 1000000000000000000) && decide (t.1 * t.1 + t.2.1 * t.2.1 + t.2.2 * t.2.2 = 3 * t.1 * t.2.1 * t.2.2) && (kids t).all (fun k => TT.contains k && decide (2 * t.2.2 ≤ k.2.2))
theorem tt_chk : TT.all okT = true := by decide +kernel
def parT (x : T3) : Bool := x == (1, 1, 1) || TT.any (fun y => (kids y).contains x)
theorem tt_par : TT.all parT = true := by decide +kernel
def rising : List T3 → Bool
  | x :: y :: r => decide (x.2.2 < y.2.2) && rising (y :: r)
  | _ => true
theorem tt_rise : rising TT = true := by decide +kernel
def nearT (t : T3) : Bool := (decide (1000000000000000000 < 3 * t.1 * t.2.2 - t.2.1) || TT.contains (t.1, t.2.2, 3 * t.1 * t.2.2 - t.2.1)) && (decide (1000000000000000000 < 3 * t.2.1 * t.2.2 - t.1) || TT.contains (t.2.1, t.2.2, 3 * t.2.1 * t.2.2 - t.1))
theorem tt_near : TT.all nearT = true := by decide +kernel

structure OkT (t : T3) : Prop where
  a : 1 ≤ t.1
  b : t.1 ≤ t.2.1
  c : t.2.1 ≤ t.2.2
  d : t.2.2 ≤ 1000000000000000000
  eq : t.1 * t.1 + t.2.1 * t.2.1 + t.2.2 * t.2.2 = 3 * t.1 * t.2.1 * t.2.2
  kid : ∀ k ∈ kids t, k ∈ TT ∧ 2 * t.2.2 ≤ k.2.2
theorem ok_of {t : T3} (h : t ∈ TT) : OkT t := by
  have := List.all_eq_true.1 tt_chk t h
  simp only [okT, Bool.and_eq_true, decide_eq_true_eq, List.all_eq_true, List.contains_iff_mem] at this
  obtain ⟨⟨⟨⟨⟨a, b⟩, c⟩, d⟩, e⟩, f⟩ := this
  exact ⟨a, b, c, d, e, f⟩
theorem par_of {t : T3} (h : t ∈ TT) : t = (1, 1, 1) ∨ ∃ y ∈ TT, t ∈ kids y := by
  have := List.all_eq_true.1 tt_par t h
  simpa only [parT, Bool.or_eq_true, beq_iff_eq, List.any_eq_true, List.contains_iff_mem] using this
theorem near_of {t : T3} (h : t ∈ TT) : (3 * t.1 * t.2.2 - t.2.1 ≤ 1000000000000000000 → (t.1, t.2.2, 3 * t.1 * t.2.2 - t.2.1) ∈ TT) ∧ (3 * t.2.1 * t.2.2 - t.1 ≤ 1000000000000000000 → (t.2.1, t.2.2, 3 * t.2.1 * t.2.2 - t.1) ∈ TT) := by
  have := List.all_eq_true.1 tt_near t h
  simp only [nearT, Bool.and_eq_true, Bool.or_eq_true, decide_eq_true_eq, List.contains_iff_mem] at this
  exact ⟨fun h => this.1.resolve_left (by omega), fun h => this.2.resolve_left (by omega)⟩
/-- the order by the last number -/
def LtT (x y : T3) : Prop := x.2.2 < y.2.2
theorem rising_pair : ∀ {l : List T3}, rising l = true → l.Pairwise LtT
  | [], _ => .nil
  | [x], _ => List.pairwise_singleton ..
  | x :: y :: r, h => by
    simp only [rising, Bool.and_eq_true, decide_eq_true_eq] at h
    have ih := rising_pair h.2
    refine List.pairwise_cons.2 ⟨fun z hz => ?_, ih⟩
    rcases List.mem_cons.1 hz with rfl | hz
    · exact h.1
    · exact Nat.lt_trans h.1 ((List.pairwise_cons.1 ih).1 z hz)
theorem tt_pair : TT.Pairwise LtT := rising_pair tt_rise
theorem pair_ext : ∀ {l m : List T3}, l.Pairwise LtT → m.Pairwise LtT → (∀ x, x ∈ l ↔ x ∈ m) → l = m
  | [], [], _, _, _ => rfl
  | [], y :: s, _, _, h => by simpa using h y
  | x :: r, [], _, _, h => by simpa using h x
  | x :: r, y :: s, hl, hm, h => by
    rw [List.pairwise_cons] at hl hm
    have hxy : x = y := by
      rcases List.mem_cons.1 ((h x).1 (List.mem_cons_self ..)) with e | e
      · exact e
      · rcases List.mem_cons.1 ((h y).2 (List.mem_cons_self ..)) with f | f
        · exact f.symm
        · exact absurd (Nat.lt_trans (hm.1 x e) (hl.1 y f)) (Nat.lt_irrefl _)
    subst hxy
    refine congrArg (x :: ·) (pair_ext hl.2 hm.2 fun z => ?_)
    constructor
    · intro hz
      rcases List.mem_cons.1 ((h z).1 (List.mem_cons_of_mem _ hz)) with e | e
      · subst e; exact absurd (hl.1 _ hz) (Nat.lt_irrefl _)
      · exact e
    · intro hz
      rcases List.mem_cons.1 ((h z).2 (List.mem_cons_of_mem _ hz)) with e | e
      · subst e; exact absurd (hm.1 _ hz) (Nat.lt_irrefl _)
      · exact e
theorem lt_apart : ∀ {l : List T3}, l.Pairwise LtT → ∀ {x y : T3}, x ∈ l → y ∈ l → x.2.2 = y.2.2 → x = y
  | z :: r, hl, x, y, hx, hy, h => by
    rw [List.pairwise_cons] at hl
    rcases List.mem_cons.1 hx with e1 | h1 <;> rcases List.mem_cons.1 hy with e2 | h2
    · rw [e1, e2]
    · subst e1; exact absurd (hl.1 y h2) (by unfold LtT; omega)
    · subst e2; exact absurd (hl.1 x h1) (by unfold LtT; omega)
    · exact lt_apart hl.2 h1 h2 h

/-- what has been found so far -/
structure Inv (most : Nat) (acc : List T3) : Prop where
  nodup : acc.Nodup
  mem : ∀ x ∈ acc, x ∈ TT ∧ x.2.2 ≤ most
theorem nodup_len : ∀ {l m : List T3}, l.Nodup → (∀ x ∈ l, x ∈ m) → l.length ≤ m.length
  | [], _, _, _ => Nat.zero_le _
  | x :: r, m, h, hs => by
    rw [List.nodup_cons] at h
    have hx := hs x (List.mem_cons_self ..)
    have ih := nodup_len (m := m.erase x) h.2 fun y hy => (List.mem_erase_of_ne (fun e : y = x => h.1 (by rw [← e]; exact hy))).2 (hs y (List.mem_cons_of_mem _ hy))
    rw [List.length_erase_of_mem hx] at ih
    have := List.length_pos_of_mem hx
    rw [List.length_cons]; omega
theorem Inv.len {most : Nat} {acc : List T3} (h : Inv most acc) : acc.length ≤ 328 := by
  have := nodup_len h.nodup (fun x hx => (h.mem x hx).1)
  exact Nat.le_trans this (by decide +kernel)
theorem Inv.push {most : Nat} {acc : List T3} (h : Inv most acc) {t : T3} (ht : t ∈ TT) (hm : t.2.2 ≤ most) (hn : t ∉ acc) : Inv most (acc ++ [t]) := by
  refine ⟨List.nodup_append.2 ⟨h.nodup, List.nodup_cons.2 ⟨by simp, List.nodup_nil⟩, fun a ha b hb => ?_⟩, fun x hx => ?_⟩
  · rw [List.mem_singleton.1 hb]; rintro rfl; exact hn ha
  · rcases List.mem_append.1 hx with h1 | h1
    · exact h.mem x h1
    · rw [List.mem_singleton.1 h1]; exact ⟨ht, hm⟩
theorem foldl_inv {most f : Nat} (ih : ∀ {t : T3} {acc : List T3}, t ∈ TT → Inv most acc → Inv most (dfs most f t acc) ∧ ∀ x ∈ acc, x ∈ dfs most f t acc) : ∀ (ks : List T3) (acc : List T3), (∀ k ∈ ks, k ∈ TT) → Inv most acc → Inv most (ks.foldl (fun a k => dfs most f k a) acc) ∧ ∀ x ∈ acc, x ∈ ks.foldl (fun a k => dfs most f k a) acc
  | [], acc, _, h => ⟨h, fun _ hx => hx⟩
  | k :: r, acc, hk, h => by
    have h1 := ih (hk k (List.mem_cons_self ..)) h
    have h2 := foldl_inv ih r _ (fun x hx => hk x (List.mem_cons_of_mem _ hx)) h1.1
    exact ⟨h2.1, fun x hx => h2.2 x (h1.2 x hx)⟩
theorem dfs_inv {most : Nat} : ∀ (f : Nat) {t : T3} {acc : List T3}, t ∈ TT → Inv most acc → Inv most (dfs most f t acc) ∧ ∀ x ∈ acc, x ∈ dfs most f t acc
  | 0, _, _, _, h => ⟨h, fun _ hx => hx⟩
  | f + 1, t, acc, ht, h => by
    rw [dfs]
    split
    · exact ⟨h, fun _ hx => hx⟩
    · rename_i hn
      have hp := h.push ht (by omega) (fun e => hn (.inr e))
      have := foldl_inv (fun {t acc} => dfs_inv f (t := t) (acc := acc)) (kids t) _ (fun k hk => ((ok_of ht).kid k hk).1) hp
      exact ⟨this.1, fun x hx => this.2 x (List.mem_append_left _ hx)⟩
/-- the neighbours of what is new are there -/
def Closed (most : Nat) (acc out : List T3) : Prop := ∀ x ∈ out, x ∈ acc ∨ ∀ k ∈ kids x, k.2.2 ≤ most → k ∈ out
theorem foldl_closed {most f : Nat} (ih : ∀ {t : T3} {acc : List T3}, t ∈ TT → Inv most acc → most < t.2.2 * 2 ^ f → (t.2.2 ≤ most → t ∈ dfs most f t acc) ∧ Closed most acc (dfs most f t acc)) : ∀ (ks : List T3) (acc : List T3), (∀ k ∈ ks, k ∈ TT ∧ most < k.2.2 * 2 ^ f) → Inv most acc →
    (∀ k ∈ ks, k.2.2 ≤ most → k ∈ ks.foldl (fun a k => dfs most f k a) acc) ∧ Closed most acc (ks.foldl (fun a k => dfs most f k a) acc)
  | [], acc, _, h => ⟨by simp, fun x hx => .inl hx⟩
  | k :: r, acc, hk, h => by
    have hk0 := hk k (List.mem_cons_self ..)
    have h1 := dfs_inv f hk0.1 h
    have h2 := ih hk0.1 h hk0.2
    have h3 := foldl_closed ih r _ (fun x hx => hk x (List.mem_cons_of_mem _ hx)) h1.1
    have h4 := foldl_inv (fun {t acc} => dfs_inv f (t := t) (acc := acc)) r _ (fun x hx => (hk x (List.mem_cons_of_mem _ hx)).1) h1.1
    refine ⟨fun x hx hm => ?_, fun x hx => ?_⟩
    · rcases List.mem_cons.1 hx with rfl | hx
      · exact h4.2 _ (h2.1 hm)
      · exact h3.1 x hx hm
    · rcases h3.2 x hx with e | e
      · rcases h2.2 x e with e | e
        · exact .inl e
        · exact .inr fun y hy hm => h4.2 _ (e y hy hm)
      · exact .inr e
theorem dfs_closed {most : Nat} : ∀ (f : Nat) {t : T3} {acc : List T3}, t ∈ TT → Inv most acc → most < t.2.2 * 2 ^ f → (t.2.2 ≤ most → t ∈ dfs most f t acc) ∧ Closed most acc (dfs most f t acc)
  | 0, t, acc, _, h, hf => ⟨fun hm => by rw [Nat.pow_zero] at hf; omega, fun x hx => .inl hx⟩
  | f + 1, t, acc, ht, h, hf => by
    have hkid : ∀ k ∈ kids t, k ∈ TT ∧ most < k.2.2 * 2 ^ f := fun k hk => by
      have h1 := (ok_of ht).kid k hk
      refine ⟨h1.1, ?_⟩
      have h2 : 2 * t.2.2 * 2 ^ f ≤ k.2.2 * 2 ^ f := Nat.mul_le_mul_right _ h1.2
      rw [Nat.pow_succ] at hf
      have h3 : 2 * t.2.2 * 2 ^ f = t.2.2 * (2 ^ f * 2) := by rw [Nat.mul_comm 2, Nat.mul_assoc, Nat.mul_comm 2]
      omega
    rw [dfs]
    split
    · rename_i hn
      refine ⟨fun hm => ?_, fun x hx => .inl hx⟩
      rcases hn with hn | hn
      · omega
      · exact hn
    · rename_i hn
      have hp := h.push ht (by omega) (fun e => hn (.inr e))
      have h1 := foldl_closed (fun {t acc} => dfs_closed f (t := t) (acc := acc)) (kids t) _ hkid hp
      have h2 := foldl_inv (fun {t acc} => dfs_inv f (t := t) (acc := acc)) (kids t) _ (fun k hk => (hkid k hk).1) hp
      refine ⟨fun _ => h2.2 t (by simp), fun x hx => ?_⟩
      rcases h1.2 x hx with e | e
      · rcases List.mem_append.1 e with e | e
        · exact .inl e
        · rw [List.mem_singleton.1 e]; exact .inr fun k hk hm => h1.1 k hk hm
      · exact .inr e
/-- Markov's triples up to a number, in order -/
def mkL (most : Nat) : List T3 := TT.filter fun t => decide (t.2.2 ≤ most)
theorem root_in : ((1, 1, 1) : T3) ∈ TT := by decide +kernel
theorem dfs_all {most : Nat} (hm : most ≤ 1000000000000000000) (x : T3) : x ∈ dfs most 60 (1, 1, 1) [] ↔ x ∈ mkL most := by
  have h0 : Inv most [] := ⟨List.nodup_nil, by simp⟩
  have h1 := dfs_inv 60 root_in h0
  have h2 := dfs_closed 60 root_in h0 (show most < 1 * 2 ^ 60 by omega)
  unfold mkL
  rw [List.mem_filter, decide_eq_true_eq]
  refine ⟨fun h => h1.1.mem x h, fun ⟨h, hc⟩ => ?_⟩
  suffices H : ∀ c, ∀ x ∈ TT, x.2.2 = c → x.2.2 ≤ most → x ∈ dfs most 60 (1, 1, 1) [] from H _ x h rfl hc
  intro c
  induction c using Nat.strongRecOn with
  | _ c ih =>
    intro x hx he hc
    rcases par_of hx with rfl | ⟨y, hy, hk⟩
    · exact h2.1 hc
    · have hky := (ok_of hy).kid x hk
      have hy1 := (ok_of hy)
      have hyc : 1 ≤ y.2.2 := Nat.le_trans hy1.a (Nat.le_trans hy1.b hy1.c)
      have := ih y.2.2 (by omega) y hy rfl (by omega)
      rcases h2.2 y this with e | e
      · cases e
      · exact e x hk hc
theorem mk_pair (most : Nat) : (mkL most).Pairwise LtT := tt_pair.filter _
theorem mk_mem {most : Nat} {x : T3} : x ∈ mkL most ↔ x ∈ TT ∧ x.2.2 ≤ most := by
  unfold mkL; rw [List.mem_filter, decide_eq_true_eq]
theorem mk_len (most : Nat) : (mkL most).length ≤ 328 := Nat.le_trans (List.length_filter_le ..) (by decide +kernel)
/-- what is sorted by a weak order and holds the same is the list -/
theorem mk_of_sorted {most : Nat} (hm : most ≤ 1000000000000000000) {l : List T3} (hp : l.Perm (dfs most 60 (1, 1, 1) [])) (hs : l.Pairwise fun x y => x.2.2 ≤ y.2.2) : l = mkL most := by
  have h0 : Inv most [] := ⟨List.nodup_nil, by simp⟩
  have h1 := dfs_inv 60 root_in h0
  have hn : l.Nodup := hp.nodup_iff.2 h1.1.nodup
  refine pair_ext ?_ (mk_pair most) fun x => (hp.mem_iff).trans (dfs_all hm x)
  have hmem : ∀ x ∈ l, x ∈ TT := fun x hx => (h1.1.mem x (hp.mem_iff.1 hx)).1
  refine List.Pairwise.imp_of_mem (R := fun x y => x.2.2 ≤ y.2.2 ∧ x ≠ y) (fun {x y} hx hy h => ?_) (hs.and hn)
  refine Nat.lt_of_le_of_ne h.1 fun e => h.2 (lt_apart tt_pair (hmem x hx) (hmem y hy) e)
/-- by trying -/
def mRow (z : Nat) : List T3 := (List.range (z + 1)).flatMap fun y => ((List.range (y + 1)).filter fun x => decide ((x + 1) * (x + 1) + (y + 1) * (y + 1) + (z + 1) * (z + 1) = 3 * (x + 1) * (y + 1) * (z + 1))).map fun x => (x + 1, y + 1, z + 1)
def mOf (most : Nat) : List T3 := (List.range most).flatMap mRow
theorem row_chk : (List.range 100).all (fun z => mRow z == TT.filter (fun t => decide (t.2.2 = z + 1))) = true := by decide +kernel
theorem cut_chk : (List.range 100).all (fun z => mkL (z + 1) == mkL z ++ TT.filter (fun t => decide (t.2.2 = z + 1))) = true := by decide +kernel
theorem mOf_eq : ∀ most, most ≤ 100 → mOf most = mkL most
  | 0, _ => by
    have : mkL 0 = [] := by decide +kernel
    rw [this]; rfl
  | z + 1, h => by
    have h1 := List.all_eq_true.1 row_chk z (List.mem_range.2 (by omega))
    have h2 := List.all_eq_true.1 cut_chk z (List.mem_range.2 (by omega))
    rw [beq_iff_eq] at h1 h2
    rw [h2, ← h1, ← mOf_eq z (by omega)]
    unfold mOf
    rw [List.range_succ, List.flatMap_append]
    simp
end Go.Proofs.Ytgocnjklpafabaa
