/- The kernel's check of the primes from 967 to 1381: the shapes of all their curves (plain; printed by gen_shpd.py). -/
import Derived.KernelRfl
import Derived.Test.YtofjmnodfabohaaGreatDoorK2
namespace Go.Proofs.YtofjmnodfabohaaGreatDoor
namespace SH
theorem sp967 : schk 967 5 483 966 967 2 16 = true := by kernel_rfl
theorem sp971 : schk 971 6 485 970 971 2 16 = true := by kernel_rfl
theorem sp977 : schk 977 3 61 620 488 16 1024 = true := by kernel_rfl
theorem sp983 : schk 983 5 491 982 983 2 16 = true := by kernel_rfl
theorem sp991 : schk 991 6 495 990 991 2 16 = true := by kernel_rfl
theorem sp997 : schk 997 7 249 161 498 4 64 = true := by kernel_rfl
theorem sp1009 : schk 1009 11 63 179 504 16 1024 = true := by kernel_rfl
theorem sp1013 : schk 1013 3 253 968 506 4 64 = true := by kernel_rfl
theorem sp1019 : schk 1019 2 509 1018 1019 2 16 = true := by kernel_rfl
theorem sp1021 : schk 1021 10 255 374 510 4 64 = true := by kernel_rfl
theorem sp1031 : schk 1031 14 515 1030 1031 2 16 = true := by kernel_rfl
theorem sp1033 : schk 1033 5 129 802 516 8 256 = true := by kernel_rfl
theorem sp1039 : schk 1039 3 519 1038 1039 2 16 = true := by kernel_rfl
theorem sp1049 : schk 1049 3 131 461 524 8 256 = true := by kernel_rfl
theorem sp1051 : schk 1051 7 525 1050 1051 2 16 = true := by kernel_rfl
theorem sp1061 : schk 1061 2 265 958 530 4 64 = true := by kernel_rfl
theorem sp1063 : schk 1063 3 531 1062 1063 2 16 = true := by kernel_rfl
theorem sp1069 : schk 1069 6 267 249 534 4 64 = true := by kernel_rfl
theorem sp1087 : schk 1087 3 543 1086 1087 2 16 = true := by kernel_rfl
theorem sp1091 : schk 1091 2 545 1090 1091 2 16 = true := by kernel_rfl
theorem sp1093 : schk 1093 5 273 563 546 4 64 = true := by kernel_rfl
theorem sp1097 : schk 1097 3 137 486 548 8 256 = true := by kernel_rfl
theorem sp1103 : schk 1103 5 551 1102 1103 2 16 = true := by kernel_rfl
theorem sp1109 : schk 1109 2 277 354 554 4 64 = true := by kernel_rfl
theorem sp1117 : schk 1117 2 279 214 558 4 64 = true := by kernel_rfl
theorem sp1123 : schk 1123 2 561 1122 1123 2 16 = true := by kernel_rfl
theorem sp1129 : schk 1129 11 141 692 564 8 256 = true := by kernel_rfl
theorem sp1151 : schk 1151 17 575 1150 1151 2 16 = true := by kernel_rfl
theorem sp1153 : schk 1153 5 9 1096 576 128 65536 = true := by kernel_rfl
theorem sp1163 : schk 1163 5 581 1162 1163 2 16 = true := by kernel_rfl
theorem sp1171 : schk 1171 2 585 1170 1171 2 16 = true := by kernel_rfl
theorem sp1181 : schk 1181 7 295 938 590 4 64 = true := by kernel_rfl
theorem sp1187 : schk 1187 2 593 1186 1187 2 16 = true := by kernel_rfl
theorem sp1193 : schk 1193 3 149 524 596 8 256 = true := by kernel_rfl
theorem sp1201 : schk 1201 11 75 473 600 16 1024 = true := by kernel_rfl
theorem sp1213 : schk 1213 2 303 495 606 4 64 = true := by kernel_rfl
theorem sp1217 : schk 1217 3 19 910 608 64 16384 = true := by kernel_rfl
theorem sp1223 : schk 1223 5 611 1222 1223 2 16 = true := by kernel_rfl
theorem sp1229 : schk 1229 2 307 632 614 4 64 = true := by kernel_rfl
theorem sp1231 : schk 1231 3 615 1230 1231 2 16 = true := by kernel_rfl
theorem sp1237 : schk 1237 2 309 691 618 4 64 = true := by kernel_rfl
theorem sp1249 : schk 1249 7 39 672 624 32 4096 = true := by kernel_rfl
theorem sp1259 : schk 1259 2 629 1258 1259 2 16 = true := by kernel_rfl
theorem sp1277 : schk 1277 2 319 113 638 4 64 = true := by kernel_rfl
theorem sp1279 : schk 1279 3 639 1278 1279 2 16 = true := by kernel_rfl
theorem sp1283 : schk 1283 2 641 1282 1283 2 16 = true := by kernel_rfl
theorem sp1289 : schk 1289 6 161 792 644 8 256 = true := by kernel_rfl
theorem sp1291 : schk 1291 2 645 1290 1291 2 16 = true := by kernel_rfl
theorem sp1297 : schk 1297 10 81 355 648 16 1024 = true := by kernel_rfl
theorem sp1301 : schk 1301 2 325 1250 650 4 64 = true := by kernel_rfl
theorem sp1303 : schk 1303 6 651 1302 1303 2 16 = true := by kernel_rfl
theorem sp1307 : schk 1307 2 653 1306 1307 2 16 = true := by kernel_rfl
theorem sp1319 : schk 1319 13 659 1318 1319 2 16 = true := by kernel_rfl
theorem sp1321 : schk 1321 13 165 371 660 8 256 = true := by kernel_rfl
theorem sp1327 : schk 1327 3 663 1326 1327 2 16 = true := by kernel_rfl
theorem sp1361 : schk 1361 3 85 574 680 16 1024 = true := by kernel_rfl
theorem sp1367 : schk 1367 5 683 1366 1367 2 16 = true := by kernel_rfl
theorem sp1373 : schk 1373 2 343 668 686 4 64 = true := by kernel_rfl
theorem sp1381 : schk 1381 2 345 366 690 4 64 = true := by kernel_rfl
end SH
end Go.Proofs.YtofjmnodfabohaaGreatDoor
