/- The kernel's check of the primes from 1399 to 1699: the shapes of all their curves (plain; printed by gen_shpd.py). -/
import Derived.KernelRfl
import Derived.Test.YtofjmnodfabohaaGreatDoorK2
namespace Go.Proofs.YtofjmnodfabohaaGreatDoor
namespace SH
theorem sp1399 : schk 1399 13 699 1398 1399 2 16 = true := by kernel_rfl
theorem sp1409 : schk 1409 3 11 1022 704 128 65536 = true := by kernel_rfl
theorem sp1423 : schk 1423 3 711 1422 1423 2 16 = true := by kernel_rfl
theorem sp1427 : schk 1427 2 713 1426 1427 2 16 = true := by kernel_rfl
theorem sp1429 : schk 1429 6 357 620 714 4 64 = true := by kernel_rfl
theorem sp1433 : schk 1433 3 179 1091 716 8 256 = true := by kernel_rfl
theorem sp1439 : schk 1439 7 719 1438 1439 2 16 = true := by kernel_rfl
theorem sp1447 : schk 1447 3 723 1446 1447 2 16 = true := by kernel_rfl
theorem sp1451 : schk 1451 2 725 1450 1451 2 16 = true := by kernel_rfl
theorem sp1453 : schk 1453 2 363 497 726 4 64 = true := by kernel_rfl
theorem sp1459 : schk 1459 3 729 1458 1459 2 16 = true := by kernel_rfl
theorem sp1471 : schk 1471 6 735 1470 1471 2 16 = true := by kernel_rfl
theorem sp1481 : schk 1481 3 185 826 740 8 256 = true := by kernel_rfl
theorem sp1483 : schk 1483 2 741 1482 1483 2 16 = true := by kernel_rfl
theorem sp1487 : schk 1487 5 743 1486 1487 2 16 = true := by kernel_rfl
theorem sp1489 : schk 1489 14 93 1300 744 16 1024 = true := by kernel_rfl
theorem sp1493 : schk 1493 2 373 432 746 4 64 = true := by kernel_rfl
theorem sp1499 : schk 1499 2 749 1498 1499 2 16 = true := by kernel_rfl
theorem sp1511 : schk 1511 11 755 1510 1511 2 16 = true := by kernel_rfl
theorem sp1523 : schk 1523 2 761 1522 1523 2 16 = true := by kernel_rfl
theorem sp1531 : schk 1531 2 765 1530 1531 2 16 = true := by kernel_rfl
theorem sp1543 : schk 1543 5 771 1542 1543 2 16 = true := by kernel_rfl
theorem sp1549 : schk 1549 2 387 88 774 4 64 = true := by kernel_rfl
theorem sp1553 : schk 1553 3 97 251 776 16 1024 = true := by kernel_rfl
theorem sp1559 : schk 1559 19 779 1558 1559 2 16 = true := by kernel_rfl
theorem sp1567 : schk 1567 3 783 1566 1567 2 16 = true := by kernel_rfl
theorem sp1571 : schk 1571 2 785 1570 1571 2 16 = true := by kernel_rfl
theorem sp1579 : schk 1579 3 789 1578 1579 2 16 = true := by kernel_rfl
theorem sp1583 : schk 1583 5 791 1582 1583 2 16 = true := by kernel_rfl
theorem sp1597 : schk 1597 11 399 610 798 4 64 = true := by kernel_rfl
theorem sp1601 : schk 1601 3 25 828 800 64 16384 = true := by kernel_rfl
theorem sp1607 : schk 1607 5 803 1606 1607 2 16 = true := by kernel_rfl
theorem sp1609 : schk 1609 7 201 979 804 8 256 = true := by kernel_rfl
theorem sp1613 : schk 1613 3 403 1486 806 4 64 = true := by kernel_rfl
theorem sp1619 : schk 1619 2 809 1618 1619 2 16 = true := by kernel_rfl
theorem sp1621 : schk 1621 2 405 166 810 4 64 = true := by kernel_rfl
theorem sp1627 : schk 1627 3 813 1626 1627 2 16 = true := by kernel_rfl
theorem sp1637 : schk 1637 2 409 316 818 4 64 = true := by kernel_rfl
theorem sp1657 : schk 1657 11 207 1418 828 8 256 = true := by kernel_rfl
theorem sp1663 : schk 1663 3 831 1662 1663 2 16 = true := by kernel_rfl
theorem sp1667 : schk 1667 2 833 1666 1667 2 16 = true := by kernel_rfl
theorem sp1669 : schk 1669 2 417 1449 834 4 64 = true := by kernel_rfl
theorem sp1693 : schk 1693 2 423 92 846 4 64 = true := by kernel_rfl
theorem sp1697 : schk 1697 3 53 69 848 32 4096 = true := by kernel_rfl
theorem sp1699 : schk 1699 3 849 1698 1699 2 16 = true := by kernel_rfl
end SH
end Go.Proofs.YtofjmnodfabohaaGreatDoor
